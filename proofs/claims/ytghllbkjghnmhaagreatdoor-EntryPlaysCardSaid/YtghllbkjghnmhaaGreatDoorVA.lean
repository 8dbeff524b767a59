/- Several texts in one. -/
import Derived.Test.YtghllbkjghnmhaaGreatDoorGI
namespace Go.Proofs.YtghllbkjghnmhaaGreatDoor
open _root_.Go.Proofs.Tryz
open Go.Lib (hid)
open Go.IntWalk (i64_in)
set_option linter.unusedVariables false
set_option linter.unusedSimpArgs false
open Go.RowKit
set_option maxRecDepth 100000
set_option maxHeartbeats 8000000
def zqi:Nat→List (List Nat)→List Nat
 |_,[] => []
 |k,x::L=>(k+x.length)::zqi (k+x.length) L
def le2(n:Nat):List Nat:= [n %256,n/256]
def zqj(L:List (List Nat)):List Nat:=L.length::0::((zqi 0 L).flatMap le2++L.flatten)
def zqk(L:List (List Nat)):Nat:=2+(L.map fun x=>2+min x.length 480).sum
def zql(L:List (List Nat)):Nat:=if L.length<1∨16<L.length then 2 else if 480<zqk L then 22 else 0
structure GoodR(L:List (List Nat)):Prop where
 n:1≤L.length∧L.length≤16
 s:zqk L≤480
theorem packE_0{L:List (List Nat)}:zql L=0↔GoodR L:=by
 unfold zql;constructor
 ·intro h
  by_cases h1:L.length<1∨16<L.length
  ·rw[if_pos h1]at h;cases h
  ·rw[if_neg h1]at h
   by_cases h2:480<zqk L
   ·rw[if_pos h2]at h;cases h
   ·exact⟨by omega,by omega⟩
 ·rintro⟨h1,h2⟩
  rw[if_neg (by omega),if_neg (by omega)]
theorem zqm:∀(L:List (List Nat)),((L.map fun x=>2+min x.length 480).sum≤478→(L.map fun x=>2+min x.length 480).sum=2*L.length+L.flatten.length)
 | [],_=>rfl
 |x::L,h=>by
  simp only[List.map_cons,List.sum_cons,List.length_cons,List.flatten_cons,List.length_append]at h⊢;have:=zqm L (by omega);omega
theorem GoodR.size{L:List (List Nat)}(h:GoodR L):zqk L=2+2*L.length+L.flatten.length:=by
 have:=h.s;have:=zqm L (by unfold zqk at this;omega);unfold zqk;omega
theorem zqn:∀(k:Nat) (L:List (List Nat)),(zqi k L).length=L.length
 |_,[] =>rfl
 |k,x::L=>by simp[zqi,zqn]
theorem zqo:∀(l:List Nat),(l.flatMap le2).length=2*l.length
 | [] =>rfl
 |x::l=>by rw[List.flatMap_cons,List.length_append,zqo l];simp[le2];omega
theorem zqp(L:List (List Nat)):(zqj L).length=2+2*L.length+L.flatten.length:=by
 unfold zqj;rw[List.length_cons,List.length_cons,List.length_append,zqo,zqn];omega
theorem zqq:∀(k:Nat) (L:List (List Nat)) (x:List Nat),zqi k (L++ [x])=zqi k L++ [k+L.flatten.length+x.length]
 |k,[],x=>by simp[zqi]
 |k,y::L,x=>by simp[zqi,zqq,Nat.add_assoc]
theorem zqr(L:List (List Nat)):∀(k i:Nat),i<L.length→(zqi k L)[i]?=some (k+(L.take (i+1)).flatten.length):=by
 induction L with
 |nil=>intro k i h;simp at h
 |cons x L ih=>
  intro k i h;cases i with
  |zero=>simp[zqi]
  |succ i=>
   rw[zqi,List.getElem?_cons_succ,ih _ i (by simp at h;omega)];simp[Nat.add_assoc]
theorem zqs:∀(l:List Nat) (i e:Nat),l[i]?=some e→(l.flatMap le2)[2*i]?=some (e %256)∧(l.flatMap le2)[2*i+1]?=some (e/256)
 | [],i,e,h=>by simp at h
 |x::l,0,e,h=>by
  simp at h;subst h;exact⟨rfl,rfl⟩
 |x::l,i+1,e,h=>by
  have:=zqs l i e (by simpa using h);rw[List.flatMap_cons];rw[show 2*(i+1)=(2*i)+2 from by omega];exact⟨this.1,this.2⟩
def pkH(L:List (List Nat))(k:Nat):List Nat:=L.length::0::(zqi 0 (L.take k)).flatMap le2
def pkN(L:List (List Nat))(k:Nat):List Nat:=(pkH L k++List.replicate (2*(L.length-k)) 0)++((L.take k).flatten++List.replicate (L.flatten.length-(L.take k).flatten.length) 0)
theorem pk_0(L:List (List Nat)):pkN L 0=(List.replicate (2+2*L.length+L.flatten.length) 0).set 0 L.length:=by
 unfold pkN pkH;simp only[List.take_zero,zqi,List.flatMap_nil,List.flatten_nil,List.nil_append,Nat.sub_zero,List.length_nil];rw[show 2+2*L.length+L.flatten.length=(2*L.length+L.flatten.length)+1+1 from by omega,List.replicate_succ,List.replicate_succ,List.set_cons_zero,←List.replicate_append_replicate];rfl
theorem zqt(L:List (List Nat)):pkN L L.length=zqj L:=by
 unfold pkN pkH zqj;rw[List.take_length,Nat.sub_self,Nat.sub_self];simp
theorem zqu{L:List (List Nat)}{k:Nat}{x:List Nat}(h:L[k]?=some x):(L.take (k+1)).flatten=(L.take k).flatten++x∧(L.take k).flatten.length+x.length≤L.flatten.length:=by
 have e:L.take (k+1)=L.take k++ [x] :=by rw[List.take_add_one,h];rfl
 refine⟨by rw[e];simp,?_⟩;have e2:L.flatten=(L.take (k+1)).flatten++(L.drop (k+1)).flatten:=by rw[←List.flatten_append,List.take_append_drop]
 rw[e2,e];simp
theorem zqv(L:List (List Nat))(k:Nat)(hk:k≤L.length):(pkH L k).length=2+2*k:=by
 unfold pkH;rw[List.length_cons,List.length_cons,zqo,zqn,List.length_take];omega
theorem zqw(L:List (List Nat))(k:Nat)(hk:k≤L.length):(pkN L k).length=2+2*L.length+L.flatten.length:=by
 have h1:=zqv L k hk
 have h2:(L.take k).flatten.length≤L.flatten.length:=by
  conv=>rhs;rw[←List.take_append_drop k L,List.flatten_append,List.length_append]
  omega
 unfold pkN;rw[List.length_append,List.length_append,List.length_append,List.length_replicate,List.length_replicate,h1];omega
theorem zqx{L:List (List Nat)}{k:Nat}{x:List Nat}(h:L[k]?=some x):((spl (pkN L k) (2+2*L.length+(L.take k).flatten.length) x).set (2+2*k) (((L.take k).flatten.length+x.length) %256)).set (2+2*k+1) (((L.take k).flatten.length+x.length)/256)=pkN L (k+1):=by
 have hk:=(List.getElem?_eq_some_iff.1 h).1;obtain⟨hf,hl⟩:=zqu h;have h1:=zqv L k (by omega)
 have hr:List.replicate (2*(L.length-k)) 0=0::0::List.replicate (2*(L.length-(k+1))) 0:=by
  rw[show 2*(L.length-k)=2*(L.length-(k+1))+1+1 from by omega,List.replicate_succ,List.replicate_succ]
 have e1:pkH L (k+1)=pkH L k++le2 ((L.take k).flatten.length+x.length):=by
  unfold pkH;rw[List.take_add_one,h,Option.toList_some,zqq,List.flatMap_append];simp
 have hsp:spl (pkN L k) (2+2*L.length+(L.take k).flatten.length) x=pkH L k++(0::0::(List.replicate (2*(L.length-(k+1))) 0++((L.take k).flatten++(x++List.replicate (L.flatten.length-(L.take k).flatten.length-x.length) 0)))):=by
  unfold spl pkN;rw[hr]
  have hA:(pkH L k++0::0::List.replicate (2*(L.length-(k+1))) 0).length=2+2*L.length:=by
   rw[List.length_append,h1,List.length_cons,List.length_cons,List.length_replicate];omega
  rw[List.take_append,List.drop_append,List.take_of_length_le (by omega),List.drop_eq_nil_of_le (by omega),hA,List.nil_append,List.take_append,List.drop_append,List.take_of_length_le (by omega),List.drop_eq_nil_of_le (by omega),List.nil_append];rw[show 2+2*L.length+(L.take k).flatten.length-(2+2*L.length)-(L.take k).flatten.length=0 from by omega,List.take_zero,List.append_nil,List.drop_replicate,show L.flatten.length-(L.take k).flatten.length-(2+2*L.length+(L.take k).flatten.length+x.length-(2+2*L.length)-(L.take k).flatten.length)=L.flatten.length-(L.take k).flatten.length-x.length from by omega];simp[List.append_assoc]
 rw[hsp];unfold pkN;rw[e1,hf];rw[List.set_append_right _ _ (by omega),h1,Nat.sub_self,List.set_cons_zero,List.set_append_right _ _ (by omega),h1,show 2+2*k+1-(2+2*k)=0+1 from by omega,List.set_cons_succ,List.set_cons_zero];simp[le2,List.append_assoc,Nat.sub_sub]
structure RecA(P:Nat→Prop)(w:World)(ad:Option Addr)(L:List (List Nat)):Prop where
 at_: ∀i,i<L.length→ ∃g o a c,ad=some ⟨g,o,none⟩∧w.cell? ⟨g,o+i,none⟩=some (.slice a (L[i]?.getD []).length c)∧Byt w a (L[i]?.getD [])∧g<w.heap.size∧P g∧ ∀h p,a=some ⟨h,p,none⟩→P h
 len:L.length≤9223372036854775807
theorem RecA.fr{P:Nat→Prop}{w w':World}{ad:Option Addr}{L:List (List Nat)}{S:List Nat}(h:RecA P w ad L)(hf:Fr S w w')(hS:∀k∈S,¬P k):RecA P w' ad L:=
 ⟨fun i hi=>by
  obtain⟨g,o,a,c,e,h1,h2,h3,h4,h5⟩:=h.at_ i hi;exact⟨g,o,a,c,e,(hf.cell (p:=⟨g,o+i,none⟩) h3 (fun k=>hS g k h4)).trans h1,h2.fr hf (fun g' o' e' k=>hS g' k (h5 g' o' e')),Nat.lt_of_lt_of_le h3 hf.size,h4,h5⟩,h.len⟩
theorem RecA.fr0{P:Nat→Prop}{w w':World}{ad:Option Addr}{L:List (List Nat)}(h:RecA P w ad L)(hf:Fr [] w w'):RecA P w' ad L:=h.fr hf (fun k hk=>by simp at hk)
theorem RecA.byte{P:Nat→Prop}{w:World}{ad:Option Addr}{L:List (List Nat)}(h:RecA P w ad L):∀x∈L,∀b∈x,b<256:=fun x hx b hb=>by
 obtain⟨i,hi,rfl⟩:=List.mem_iff_getElem.1 hx;obtain⟨g,o,a,c,_,_,h2,h3,h4,h5⟩:=h.at_ i hi;rw[List.getElem?_eq_getElem hi]at h2;exact h2.byte b hb
theorem zqy(w:World)(a:Option Addr)(c n:Nat)(hn:n≤1099511627776):Calls prog 211 #[.slice a n c] w (zE (.int .i64 (2+min n 480:Nat)) w):=by
 obtain⟨m,hm⟩:∃m:Nat,min (n:Int) 480=m:=⟨min n 480,by omega⟩;have hm2:2+min n 480=2+m:=by omega
 rw[hm2];have wm:IntKind.i64.wrap (2+(m:Int))=((2+m:Nat):Int):=by rw[i6 _];omega
 clear hm2;go_in;go_wp2;go_ret;exact⟨rfl,rfl⟩
def sumN(L:List (List Nat)):Nat:=(L.map fun x=>2+min x.length 480).sum
theorem zqz{L:List (List Nat)}{k:Nat}{x:List Nat}(h:L[k]?=some x):sumN (L.take (k+1))=sumN (L.take k)+(2+min x.length 480):=by
 unfold sumN;rw[List.take_add_one,h,Option.toList_some,List.map_append,List.sum_append];simp
theorem zq0(L:List (List Nat)):sumN L≤482*L.length:=by
 induction L with
 |nil=>simp[sumN]
 |cons x L ih=>unfold sumN at ih⊢;rw[List.map_cons,List.sum_cons,List.length_cons];omega
theorem zq1{P:Nat→Prop}(w:World)(ad:Option Addr)(cap:Nat)(L:List (List Nat))(h:RecA P w ad L)(hl:L.length≤16):Calls prog 210 #[.slice ad L.length cap,.func (.func 211) #[] #[]] w (zE (sumN L) w):=by
 have HT:=hid (fun k x (hx:L[k]?=some x)=>zqz hx);have HZ:=hid (show sumN (L.take 0)=0 from rfl);have HF:=hid (show sumN (L.take L.length)=sumN L from by rw[List.take_length])
 have HLe:=hid (fun k=>(show sumN (L.take k)≤8000 from by
  have h1:=zq0 (L.take k);have h2:=List.length_take (i:=k) (l:=L);omega))
 obtain⟨M,hM⟩:∃M:Nat→Nat,(fun k=>sumN (L.take k))=M:=⟨_,rfl⟩;have hM':∀k,sumN (L.take k)=M k:=fun k=>by rw[←hM]
 simp only[hM']at HT HZ HF HLe;generalize sumN L=R at*;generalize hn:L.length=n at HF hl⊢;have HN:=hid hn;clear hn hM hM';go_in;go_wp2;go_loopg [5,10] (n+1) (fun gk v5 v10 W=>∃i:Nat,v5= .int .i64 (M i)∧v10= .int .i64 i∧(i+gk=n+1∧i≤n)∧w=W);case atStart=>exact⟨0,by rw[HZ.out];rfl,rfl,by omega,rfl⟩
 case round=>
  obtain⟨i,rfl,rfl,hi,rfl⟩:=hrel;by_cases hlt:i<n
  ·have b6':=dT (i<n)
   have hL:i<L.length:=by rw[HN.out];exact hlt
   obtain⟨g,o,a,c,rfl,hc,hb,hg,_⟩:=h.at_ i hL;have hgd:L[i]?=some L[i] :=List.getElem?_eq_getElem hL;have hx:=HT.out i _ hgd;rw[hgd]at hc hb;simp only[Option.getD_some]at hc hb;have hbl:=hb.len;have hle:=HLe.out i;generalize(L[i]'hL).length=m at*;have H1:=hid (fun V=>zqy V a c m hbl);obtain⟨z,hz⟩:∃z,2+min m 480=z:=⟨_,rfl⟩;have hz2:z≤482:=by omega
   rw[hz]at hx H1;have HX:=hid hx;have i0:(0:Int)≤i:=by omega
   have i1:(i:Int)<n:=by omega
   have ws:IntKind.i64.wrap ((M i:Int)+z)=((M i+z:Nat):Int):=by rw[i6 _];push_cast;rfl
   have wi:=i6 ((i:Int)+1);clear hx hz hgd hL hb hbl;go_wp2_with fail;go_call H1.out _ as e w2 ⟨rfl,rfl⟩;go_wp2;go_roundg (gk-1);case measure=>omega
   case rel=>exact⟨i+1,by rw[HX.out];push_cast;rfl,by go_num,by omega,rfl⟩
  ·obtain rfl:i=n:=by omega
   go_wp2;go_ret;rw[HF.out];exact⟨rfl,rfl⟩
theorem zq2{P:Nat→Prop}(w:World)(ad:Option Addr)(cap:Nat)(L:List (List Nat))(h:RecA P w ad L):Calls prog 110 #[.slice ad L.length cap] w (zE (.tuple #[.int .i64 (if zql L=0 then zqk L else 0:Nat),(zql L)]) w):=by
 have HS:=hid (fun hl:L.length≤16=>zq1 w ad cap L h hl);have hsl:=zq0 L;have hlen:=h.len;have hc16:¬(L.length<1∨16<L.length)→sumN L≤7712:=fun k=>by omega
 by_cases h1:L.length<1∨16<L.length
 ·have hp:zql L=2:=by unfold zql;rw[if_pos h1]
  rw[hp];generalize L.length=n at*;clear hsl h HS hc16;obtain⟨p1,e1⟩:∃p,decide ((n:Int)<1)=p:=⟨_,rfl⟩;have e1':decide (n<1)=p1:=by rw[←e1];exact decide_eq_decide.2 (by omega)
  cases p1 with
  |true=>
   go_in;go_wp2;go_ret2;exact⟨rfl,rfl⟩
  |false=>
   have hn:16<n:=by have:=of_decide_eq_false e1;omega
   have e2:=dT ((16:Int)<n);have e2':=dT (16<n);clear h1 hn;go_in;go_wp2;go_ret2;exact⟨rfl,rfl⟩
 ·have e1:=dF ((L.length:Int)<1)
  have e1':=dF (L.length<1);have e2:=dF ((16:Int)<L.length);have e2':=dF (16<L.length);have hS:=HS.out (by omega);have hsz:zqk L=2+sumN L:=rfl;have hs7:=hc16 h1;have ws:IntKind.i64.wrap (2+(sumN L:Int))=((zqk L:Nat):Int):=by rw[i6 _];omega
  have hpe:zql L=if 480<zqk L then 22 else 0:=by unfold zql;rw[if_neg h1]
  rw[hpe];have hsb:zqk L≤8000:=by omega
  clear hsz hpe h1 HS h hsl hc16 hs7;generalize sumN L=s at*;generalize zqk L=z at*;generalize L.length=n at*;by_cases h2:480<z
  ·have e3:=dT ((480:Int)<z)
   have e3':=dT (480<z);simp only[if_pos h2];clear h2;go_in;go_wp2_with fail;go_call hS as e w2 ⟨rfl,rfl⟩;go_wp2;go_ret2;exact⟨rfl,rfl⟩
  ·have e3:=dF ((480:Int)<z)
   have e3':=dF (480<z);simp only[if_neg h2];clear h2;go_in;go_wp2_with fail;go_call hS as e w2 ⟨rfl,rfl⟩;go_wp2;go_ret2;exact⟨rfl,rfl⟩
theorem zq3{w:World}{g cap:Nat}{l m:List Nat}(h:RowB w g cap l)(x:Nat){a:Option Addr}{c:Nat}(hm:Byt w a m)(hE:x+m.length≤l.length){A:Option Addr}{d n:Nat}(hA:(0<m.length→A=some ⟨g,x,none⟩))(hd:m.length≤d)(hn:n=m.length):∀ty,(Builtin.copy_ #[49,49] ty #[.slice A d d,.slice a n c]).run prog w= .ok (goInt n) (w.setCells g x (zbd m)):=fun ty=>by
 subst hn;have hmin:Nat.min m.length d=m.length:=Nat.min_eq_left hd;by_cases h0:m= []
 ·subst h0
  exact run_copy_none w _ _ ty 5 _ _ _ _ _ _ underlying49 (by kernel_rfl) hmin
 ·have hpos:0<m.length:=List.length_pos_iff.2 h0
  rw[hA hpos];obtain⟨ga,oa,ha,_⟩:=hm.at_ 0 hpos;have hcl:(zbd m).length=m.length:=by simp[zbd]
  rw[ha]
  have:=run_copy_cells (P:=prog) w 49 49 ty 5 g x d d ⟨ga,oa,none⟩ m.length c (zbd m) underlying49 (by kernel_rfl) (by rw[hcl,hmin]) (fun j v hv=>by
   have hj:j<m.length:=by
    have:=(List.getElem?_eq_some_iff.1 hv).1;rw[hcl]at this;exact this
   obtain⟨g',o',e',hc',_⟩:=hm.at_ j hj;rw[ha]at e';injection e' with e';injection e' with e1 e2;subst e1 e2;have hadd:(⟨ga,oa,none⟩:Addr).add j=⟨ga,oa+j,none⟩:=by unfold Addr.add;split<;>simp_all
   rw[hadd,hc',←hv,zbd,List.getElem?_map,List.getElem?_eq_getElem hj]
   rfl) (fun j hj=>by rw[hcl]at hj;rw[h.cell (x+j) (by omega)];rfl) (fun j _=>h.frozen _) (fun v hv=>by
    obtain⟨k,_,rfl⟩:=List.mem_map.1 hv;rfl)
  rw[hcl]at this;exact this
theorem zq4{P:Nat→Prop}(w:World)(ad:Option Addr)(cap:Nat)(L:List (List Nat))(h:RecA P w ad L)(hG:GoodR L):Calls prog 52 #[.slice ad L.length cap] w fun e w'=>∃g,e= .returned (.tuple #[.slice (some ⟨g,0,none⟩) (zqk L) (zqk L),(0:Int)])∧w.heap.size≤g∧RowB w' g (zqk L) (zqj L)∧Fr [] w w':=by
 have HS:=zq2 w ad cap L h;rw[packE_0.2 hG,if_pos rfl]at HS;have hsz:=hG.size;have hs:=hG.s;have hn1:=hG.n;have HMk:=hid (fun V=>zae (P:=prog) 49 5 underlying49 zaz .i64 .i64 (zqk L) (by omega) V);have H0:=hid (pk_0 L);have HST:=hid (fun k x (hx:L[k]?=some x)=>zqx hx);have HTF:=hid (fun k x (hx:L[k]?=some x)=>zqu hx);have HAL:=hid (zqt L);have HPL:=hid (fun k hk=>zqw L k hk);have HTL:=hid (show(L.take L.length).flatten.length=L.flatten.length from by rw[List.take_length]);rw[←hsz]at H0 HPL;generalize hF:L.flatten.length=F at hsz HTF HTL;have hb0:=h.byte;clear hF hb0 hG;generalize zqk L=z at*;generalize hN:L.length=N at hsz hn1 HS H0 HST HTL HPL HAL⊢;have HN:=hid hN;have HSZ:=hid hsz;have hz2:2≤z:=by omega
 obtain⟨M,hM⟩:∃M:Nat→Nat,(fun k=>(L.take k).flatten.length)=M:=⟨_,rfl⟩;have hM':∀k,(L.take k).flatten.length=M k:=fun k=>by rw[←hM]
 have HTF2:=hid (fun k x (hx:L[k]?=some x)=>(show M (k+1)=M k+x.length∧M k+x.length≤F from by
  have:=HTF.out k x hx;refine⟨?_,by rw[←hM];exact this.2⟩;rw[←hM' (k+1),this.1,List.length_append,hM']))
 have HM0:=hid (show M 0=0 from by rw[←hM' 0];rfl);simp only[hM']at HST HTL;clear hM hM' hN hsz HTF;have wN:IntKind.u8.wrap (N:Int)=(N:Int):=by show(N:Int) %256=N;omega
 have wa:IntKind.i64.wrap (2*(N:Int))=((2*N:Nat):Int):=by rw[i6 _];push_cast;rfl
 have wb:IntKind.i64.wrap (2+((2*N:Nat):Int))=((2+2*N:Nat):Int):=by rw[i6 _];push_cast;rfl
 have hn16:=hn1.2;have z1':0<z:=by omega
 clear hn1;go_in;go_wp2_with fail;go_call HS as e w2 ⟨rfl,rfl⟩;clear HS;have hm:=HMk.out w2;have R0:=RowB.of (Blk.new w2 5 (bytes (List.replicate z 0)));rw[List.length_replicate]at R0;have F0:=(Fr.refl [] w2).alloc (.cells (bytes (List.replicate z 0)) 5);have dd:=R0.cell 0 (by rw[List.length_replicate];omega);have zz:=R0.frozen 0;clear HMk;generalize w2.alloc (.cells (bytes (List.replicate z 0)) 5)=w3 at*;have R1:=R0.set 0 N (by rw[List.length_replicate];omega);rw[←H0.out]at R1;have F1:=F0.setCell (p:=⟨w2.heap.size,0,none⟩) (.inr (Nat.le_refl _)) (.int .u8 (N:Int));clear R0 F0 H0;go_wp2;go_loopg [8,34] (N+1) (fun gk v8 v34 W=>∃i:Nat,v8= .int .i64 ((2+2*N+M i:Nat):Int)∧v34= .int .i64 i∧(i+gk=N+1∧i≤N)∧Hid (RowB W w2.heap.size z (pkN L i))∧Hid (Fr [] w2 W));case atStart=>exact⟨0,by rw[HM0.out];rfl,rfl,by omega,R1,F1⟩
 case round=>
  clear R1 F1;obtain⟨i,rfl,rfl,hi,R2,F2⟩:=hrel;by_cases hlt:i<N
  ·have b6':=dT (i<N)
   have hL:i<L.length:=by rw[HN.out];exact hlt
   obtain⟨g,o,a,c,rfl,hc,hb,hg,hP,hPa⟩:=(h.fr0 F2.out).at_ i hL;have hgd:L[i]?=some L[i] :=List.getElem?_eq_getElem hL;rw[hgd]at hc hb;simp only[Option.getD_some]at hc hb;have hx:=HTF2.out i _ hgd;have hst:=HST.out i _ hgd;have hpl:=HPL.out i (by omega);generalize L[i]'hL=x at*;obtain⟨m,hm⟩:∃m,x.length=m:=⟨_,rfl⟩;have hz:=HSZ.out;obtain⟨K,hK⟩:∃K,2+2*N+M i=K:=⟨_,rfl⟩;obtain⟨A,hA⟩:∃A:Option Addr,(if z=K then some ⟨w2.heap.size,0,none⟩else some ⟨w2.heap.size,K,none⟩)=A:=⟨_,rfl⟩;have hKz:K+m≤z:=by omega
   have hcp:=zq3 (n:=m) (d:=z-K) (A:=A) (c:=c) R2.out K hb (by omega) (fun h=>by rw[←hA,if_neg (by omega)]) (by omega) hm.symm;have RS:=R2.setCells K x (by omega);have FS:=F2.setCells (.inr (Nat.le_refl w2.heap.size)) (zbd x) K;rw[hm]at hc hx;rw[hK];rw[hK,hm]at hst;have hsl:(spl (pkN L i) K x).length=z:=by rw[zda _ _ _ (by omega)];exact hpl
   obtain⟨E,hE⟩:∃E,M i+m=E:=⟨_,rfl⟩;obtain⟨e1,he1⟩:∃e1,E %256=e1:=⟨_,rfl⟩;obtain⟨e2,he2⟩:∃e2,E/256=e2:=⟨_,rfl⟩;have eE:(K:Int)+m-(2+2*N)=(E:Int):=by omega
   have u1:IntKind.u8.wrap (E:Int)=(e1:Int):=by show(E:Int) %256=_;omega
   have u2:(E:Int)/256=(e2:Int):=by omega
   have u3:IntKind.u8.wrap (e2:Int)=(e2:Int):=by show(e2:Int) %256=_;omega
   have r0:2+2*i+1<z:=by omega
   have HE:=hid (And.intro hE (And.intro he1 he2));rw[hE,he1,he2]at hst;have HX:=hid (And.intro hx (And.intro hst (And.intro hK (And.intro hz hm))));generalize spl (pkN L i) K x=l1 at*;generalize wr.setCells w2.heap.size K (zbd x)=W1 at*;have dd1:=RS.cell (2+2*i) (by omega);have zz1:=RS.frozen (2+2*i);have RS2:=RS.set (2+2*i) e1 (by omega);have dd2:=RS2.cell (2+2*i+1) (by rw[List.length_set];omega);have zz2:=RS2.frozen (2+2*i+1);have RS3:=RS2.set (2+2*i+1) e2 (by rw[List.length_set];omega);rw[hst]at RS3;have FS3:=(FS.setCell (p:=⟨w2.heap.size,2+2*i,none⟩) (.inr (Nat.le_refl _)) (.int .u8 (e1:Int))).setCell (p:=⟨w2.heap.size,2+2*i+1,none⟩) (.inr (Nat.le_refl _)) (.int .u8 (e2:Int));clear hx hst hK hz hm hb hL hgd hpl hE he1 he2 RS RS2 FS hsl;have i0:(0:Int)≤i:=by omega
   have i1:(i:Int)<N:=by omega
   have k0:(0:Int)≤K:=by omega
   have k1:(K:Int)≤z:=by omega
   go_wp2;go_roundg (gk-1);case measure=>omega
   case rel=>
    obtain⟨⟨h1,_⟩,h2,h3,h4,h5⟩:=HX.out;exact⟨i+1,by rw[h1,←h3];push_cast;congr 1;omega,by go_num,by omega,RS3,FS3⟩
  ·obtain rfl:i=N:=by omega
   have b6':=dF (i<i);rw[HAL.out]at R2;go_wp2;go_ret2;exact⟨w2.heap.size,rfl,Nat.le_refl _,R2.out,F2.out⟩
theorem zq5{P:Nat→Prop}(w:World)(ad:Option Addr)(cap:Nat)(L:List (List Nat))(h:RecA P w ad L)(hG:zql L≠0):Calls prog 52 #[.slice ad L.length cap] w (zE (.tuple #[.slice none 0 0,(zql L)]) w):=by
 have HS:=zq2 w ad cap L h;rw[if_neg hG]at HS;generalize zql L=k at*;have hk:((k:Int) !=0)=true:=by simp;omega
 have hk':(k !=0)=true:=by simp;omega
 generalize L.length=n at*;clear h hG;go_in;go_wp2_with fail;go_call HS as e w2 ⟨rfl,rfl⟩;go_wp2;go_ret2;exact⟨rfl,rfl⟩
theorem xnan(w:World)(a:Int):Calls prog 318 #[a] w (zE false w):=by
 go_in;go_wp2;go_ret;exact⟨rfl,rfl⟩
theorem zq6(w:World)(a b:Int):Calls prog 307 #[a,b] w (zE (.bool (decide (a<b))) w):=by
 have HN:=hid (fun V=>xnan V a);obtain⟨p,hp⟩:∃p,decide (a<b)=p:=⟨_,rfl⟩;rw[hp];go_in;go_wp2_with fail;go_call HN.out _ as e w2 ⟨rfl,rfl⟩;go_wp2;go_ret;exact⟨rfl,rfl⟩
theorem zq7(w:World)(g n:Nat)(f:Nat→Int)(hb:Blk w g 3 (zbk n f))(hn:n≤1000)(h1:1≤n)(hs:∀i,i+1<n→f i≤f (i+1)):Calls prog 251 #[.slice (some ⟨g,0,none⟩) n n] w (zN true w):=by
 have HS:=hid hs;have w1:=i6 ((n:Int)-1);clear hs;go_in;go_wp2;go_loopg [3] (n+1) (fun gk v3 W=>∃i:Nat,v3= .int .i64 i∧(i+1≤gk∧i+1≤n)∧Hid (Fr [] w W));case atStart=>exact⟨n-1,by congr 1<;>omega,by omega,hid (Fr.refl [] w)⟩
 case round=>
  obtain⟨i,rfl,hi,F2⟩:=hrel;rcases i with _|j
  ·go_wp2
   go_ret;exact⟨rfl,F2.out⟩
  ·have hB:=hb.fr F2.out (by simp)
   have c1:=hB.cellF (j+1) (by omega);have c0:=hB.cellF j (by omega);have hle:=HS.out j (by omega);have HL:=hid (fun V=>zq6 V (f (j+1)) (f j));rw[show decide (f (j+1)<f j)=false from by simp;exact hle]at HL;generalize f (j+1)=a1 at*;generalize f j=a0 at*;clear hB hle;go_wp2_with fail;go_quiet ((go_at_call 307;exact zal ((HL.out _).mono fun e w' ⟨h1,h2⟩=>⟨h1,h2.symm⟩)));go_wp2;go_roundg (gk-1);case measure=>omega
   case rel=>exact⟨j,rfl,by omega,hid (F2.drewN _)⟩
theorem zq8{L:List (List Nat)}(hG:GoodR L){k:Nat}(hk:k<L.length):ldTo (zqj L) (2+2*k) 2=(L.take (k+1)).flatten.length:=by
 have he:=zqr L 0 k hk;rw[Nat.zero_add]at he;obtain⟨h1,h2⟩:=zqs _ _ _ he;have hl:2*k+1<((zqi 0 L).flatMap le2).length:=by rw[zqo,zqn];omega
 have g1:(zqj L)[2+2*k]?=some ((L.take (k+1)).flatten.length %256):=by
  unfold zqj;rw[show 2+2*k=2*k+1+1 from by omega,List.getElem?_cons_succ,List.getElem?_cons_succ,List.getElem?_append_left (by omega)];exact h1
 have g2:(zqj L)[2+2*k+1]?=some ((L.take (k+1)).flatten.length/256):=by
  unfold zqj;rw[show 2+2*k+1=2*k+1+1+1 from by omega,List.getElem?_cons_succ,List.getElem?_cons_succ,List.getElem?_append_left (by omega)];exact h2
 simp only[ldTo,Nat.add_zero,g1,g2,Option.getD_some];omega
theorem GoodR.flat{L:List (List Nat)}(h:GoodR L):L.flatten.length≤476:=by
 have h1:=h.size;have h2:=h.s;have h3:=h.n;omega
theorem zq9(L:List (List Nat))(k:Nat):(L.take k).flatten.length≤(L.take (k+1)).flatten.length∧(L.take k).flatten.length≤L.flatten.length:=by
 constructor
 ·rw[List.take_add_one,List.flatten_append,List.length_append];omega
 ·conv=>rhs;rw[←List.take_append_drop k L,List.flatten_append,List.length_append]
  omega
theorem zra(w:World)(a:Option Addr)(c:Nat)(L:List (List Nat))(hG:GoodR L)(hb:Byt w a (zqj L)):Calls prog 141 #[.slice a (zqj L).length c] w fun e w'=>∃g,e= .returned (.tuple #[.slice (some ⟨g,0,none⟩) L.length L.length,(0:Int)])∧w.heap.size≤g∧Blk w' g 3 (zbk L.length fun i=>((L.take (i+1)).flatten.length:Nat))∧Fr [] w w':=by
 have hn1:=hG.n;have hfl:=hG.flat;have hGs:2+2*L.length+L.flatten.length≤480:=by rw[←hG.size];exact hG.s
 have hlen:=zqp L;obtain⟨g,o,ha,hc0,hg⟩:=hb.at_ 0 (by omega);obtain⟨g',o',ha',hc1,_⟩:=hb.at_ 1 (by omega);rw[ha]at ha';injection ha' with ha';injection ha' with e1 e2;subst e1 e2;have q0:(zqj L)[0]?.getD 0=L.length:=rfl;have q1:(zqj L)[1]?.getD 0=0:=rfl;rw[q0,Nat.add_zero]at hc0;rw[q1]at hc1;subst ha
 have HLd:=hid (fun V (hV:Fr [] w V) k (hk:k<L.length)=>(show Calls prog 153 #[.slice (some ⟨g,o,none⟩) (zqj L).length c,.int .i64 (2+2*(k:Int)),(2:Int)] V (zE (.tuple #[.int .u64 ((L.take (k+1)).flatten.length:Nat),(0:Int)]) V)from by
  have h1:=zbc V _ c _ (hb.fr hV (by simp)) ((2+2*k:Nat):Int) 2
  have hp:za6 (zqj L).length ((2+2*k:Nat):Int) 2=0:=by
   unfold za6;rw[if_neg (by decide),if_neg (by rw[hlen];omega),if_neg (by omega)]
  unfold ldV at h1;rw[hp,if_pos rfl]at h1;have e:((2+2*k:Nat):Int).toNat=2+2*k:=by omega
  rw[e,show(2:Int).toNat=2 from rfl,zq8 hG hk,show((2+2*k:Nat):Int)=2+2*(k:Int)from by push_cast;rfl]at h1;exact h1))
 have HM:=hid (fun k=>zq9 L k);have HTL:=hid (show(L.take L.length).flatten.length=L.flatten.length from by rw[List.take_length]);have HCL:=hid (fun V (hV:Fr [] w V)=>And.intro ((hV.cell (p:=⟨g,o,none⟩) hg (by simp)).trans hc0) ((hV.cell (p:=⟨g,o+1,none⟩) hg (by simp)).trans hc1));generalize L.flatten.length=F at*;generalize(zqj L).length=z at*;obtain⟨M,hM⟩:∃M:Nat→Nat,(fun k=>(L.take k).flatten.length)=M:=⟨_,rfl⟩;have hM':∀k,(L.take k).flatten.length=M k:=fun k=>by rw[←hM]
 simp only[hM']at HLd HM HTL⊢;generalize L.length=n at*;clear hM hM' hb hG q0 q1;have HMk:=hid (fun V=>zbq (P:=prog) 69 3 underlying69 zbr .i64 .i64 n (by omega) V);have HSZ:=hid hlen;have b1:=dF ((z:Int)<2);have b1':=dF (z<2);have b2:((n:Int)==0)=false:=by simp;omega
 have b2':(n==0)=false:=by simp;omega
 have b3:=dF ((16:Int)<n);have b3':=dF (16<n);have b4:=dF ((z:Int)<2+2*n);have b4':=dF (z<2+2*n);have hz48:z≤480:=by have:=hGs;omega
 have i0:(0:Int)<z:=by omega
 have i1:(1:Int)<z:=by omega
 have i0':0<z:=by omega
 have hN:=hn1.2;have hN1:=hn1.1;have hF:=hfl;clear hlen hn1 hfl;have hm:=HMk.out w;have B0:=Blk.new w 3 (zbk n fun _=>0);have F0:=(Fr.refl [] w).alloc (.cells (zbk n fun _=>0) 3);obtain⟨c0,c1⟩:=HCL.out w (Fr.refl [] w);clear hc0 hc1;go_in;go_wp2;generalize w.alloc (.cells (zbk n fun _=>0) 3)=w1 at*;clear c0 c1 hm HMk;go_loopg [39] (n+1) (fun gk v39 W=>∃i:Nat,v39= .int .i64 i∧(i+gk=n+1∧i≤n)∧Hid (Blk W w.heap.size 3 (zbk n fun k=>if k<i then(M (k+1):Int)else 0))∧Hid (Fr [] w W));case atStart=>exact⟨0,rfl,by omega,hid (by simpa using B0),F0⟩
 case round=>
  clear B0 F0;obtain⟨i,rfl,hi,B2,F2⟩:=hrel;by_cases hlt:i<n
  ·have b6':=dT (i<n)
   have HL:=hid (HLd.out wr F2.out i hlt);have cc:=B2.cellF i hlt;have zz:=B2.frozen i;have i2:(0:Int)≤i:=by omega
   have i3:(i:Int)<n:=by omega
   have B3:=(B2.setF (fun k=>if k<i+1 then(M (k+1):Int)else 0) i (M (i+1)) (fun j hj=>by
    by_cases e:j=i
    ·rw[if_pos e,e,if_pos (by omega)]
    ·rw[if_neg e]
     by_cases k:j<i
     ·rw[if_pos k,if_pos (by omega)]
     ·rw[if_neg k,if_neg (by omega)]))
   have F3:=F2.setCell (p:=⟨w.heap.size,i,none⟩) (.inr (Nat.le_refl _)) (.int .i64 (M (i+1):Int));have wm:IntKind.i64.wrap (M (i+1):Int)=(M (i+1):Int):=i64_in _ (by have:=(HM.out (i+1)).2;omega);have wi:=i6 ((i:Int)+1);generalize M (i+1)=m at*;go_wp2_with fail;go_call HL.out as e w4 ⟨rfl,rfl⟩;clear HL;go_wp2;go_roundg (gk-1);case measure=>omega
   case rel=>exact⟨i+1,by go_num,by omega,B3,F3⟩
  ·obtain rfl:i=n:=by omega
   have B3:=(show Blk wr w.heap.size 3 (zbk i fun k=>(M (k+1):Int))from by
    rw[←zbn (f:=fun k=>if k<i then(M (k+1):Int)else 0) (k:=fun k=>(M (k+1):Int)) (fun k hk=>if_pos hk)];exact B2.out)
   have HS:=zq7 wr w.heap.size i _ B3 (by omega) hN1 (fun k hk=>by have:=(HM.out (k+1)).1;omega);go_wp2_with fail;go_call HS as e w4 ⟨rfl,f4⟩;have F4:=F2.trans f4;have B4:=B3.fr f4 (by simp);have cc:=B4.cellF (i-1) (by omega);rw[show i-1+1=i from by omega,HTL.out]at cc;have eL:(z:Int)-2-2*(i:Int)=(F:Int):=by have:=HSZ.out;omega
   have b7:=dF ((480:Int)<z);clear HS B2 B3 F2 f4;go_wp2;go_ret2;exact⟨w.heap.size,rfl,Nat.le_refl _,B4,F4⟩
theorem zrb{P:Program}{w:World}{ops:Array Oper}{rest:List Oper}{o:Oper}{a:Act}{Q:Exit→Act→World→Prop}(hgd:o.guard=none)
  (s x:Operand) (t:TypeId) (hop:o.op=Op.call {callee:=Callee.builtin Builtin.append,args:= #[s,x],argTypes:= #[t,t]}) (hty:o.type=t)
  (vs vx v':Value) (w':World) (hs:a.eval s=vs) (hx:a.eval x=vx) (hrun:(Builtin.append_ #[t,t] t #[vs,vx]).run P w= .ok v' w')
  (h:wpList P ops Q rest (a.put o.dst v') w'):wpList P ops Q (o::rest) a w:=
 wpList_plain hgd fun K hK=>zj4 s x t hop hty vs vx v' w' hs hx hrun (hK _ _ h)
theorem zrc(w:World):OwnB (w.alloc (.cells #[] 5)) w.heap.size (.slice (some ⟨w.heap.size,0,none⟩) 0 0) [] :=
 ⟨rfl,.inr ⟨_,0,#[],rfl,Nat.le_refl _,Blk.new _ _ _,Nat.le_refl _,by unfold maxLen;omega,rfl,rfl⟩⟩
theorem zrd{W W':World}{base size n:Nat}{e:TypeId}{v:Value}{xs:List Value}{S:List Nat}(h:W.ownsRow base e size v n xs)(hf:Fr S W W')(hS:∀k∈S,v.ownBlock≠some k):W'.ownsRow base e size v n xs:=by
 obtain⟨h1,⟨h2,h3⟩|⟨g,cap,cur,rfl,hb,hg,r⟩⟩:=h
 ·exact⟨h1,.inl ⟨h2,h3⟩⟩
 ·exact⟨h1,.inr ⟨g,cap,cur,rfl,hb,(hf.block g (Array.getElem?_eq_some_iff.1 hg).1 (fun hm=>hS g hm rfl)).trans hg,r⟩⟩
theorem zre{W:World}{base size n:Nat}{e:TypeId}{v:Value}{xs:List Value}(h:W.ownsRow base e size v n xs){k:Nat}(hk:k∈ownS v):base≤k∧k<W.heap.size:=by
 obtain⟨_,⟨rfl,_⟩|⟨g,cap,cur,rfl,hb,hg,_⟩⟩:=h
 ·cases hk
 ·simp[ownS,Value.ownBlock]at hk
  subst hk;exact⟨hb,Blk.lt hg⟩
theorem zrf{W:World}{base base' size n:Nat}{e:TypeId}{v:Value}{xs:List Value}(h:W.ownsRow base e size v n xs)(hb:base'≤base):W.ownsRow base' e size v n xs:=by
 obtain⟨h1,⟨h2,h3⟩|⟨g,cap,cur,rfl,hg,r⟩⟩:=h
 ·exact⟨h1,.inl ⟨h2,h3⟩⟩
 ·exact⟨h1,.inr ⟨g,cap,cur,rfl,Nat.le_trans hb hg,r⟩⟩
theorem zrg{W:World}{b1 b2 s1 s2 n1 n2:Nat}{e1 e2:TypeId}{v1 v2:Value}{xs1 xs2:List Value}(h1:W.ownsRow b1 e1 s1 v1 n1 xs1)(h2:W.ownsRow b2 e2 s2 v2 n2 xs2)(hne:e1≠e2):∀k∈ownS v1,v2.ownBlock≠some k:=by
 intro k hk e;obtain⟨_,⟨rfl,_⟩|⟨g,cap,cur,rfl,hb,hg,_⟩⟩:=h1
 ·cases hk
 ·simp[ownS,Value.ownBlock]at hk
  subst hk;obtain⟨_,⟨rfl,_⟩|⟨g',cap',cur',rfl,_,hg',_⟩⟩:=h2
  ·cases e
  ·simp[Value.ownBlock]at e
   subst e;exact Blk.ne_ (t:=e1) (t':=e2) hg hg' hne rfl
theorem zrh{W:World}{b s n g:Nat}{e t:TypeId}{v:Value}{xs:List Value}{cs:Array Value}(h:W.ownsRow b e s v n xs)(hb:Blk W g t cs)(hne:e≠t):g∉ownS v:=by
 intro hk;obtain⟨_,⟨rfl,_⟩|⟨g',cap,cur,rfl,_,hg,_⟩⟩:=h
 ·cases hk
 ·simp[ownS,Value.ownBlock]at hk
  subst hk;exact Blk.ne_ (t:=e) (t':=t) hg hb hne rfl
def RecO(w:World)(base:Nat)(v:Value)(L:List (List Nat)):Prop:=
 ∃vs,w.ownsRow base 49 1 v L.length vs∧vs.length=L.length∧ ∀(i:Nat) (x:List Nat),L[i]?=some x→ ∃va,vs[i]?=some va∧OwnB w base va x
theorem RecO.fr{w w':World}{base:Nat}{v:Value}{L:List (List Nat)}{S:List Nat}(h:RecO w base v L)(hf:Fr S w w')(hS:∀k∈S,k<base):RecO w' base v L:=by
 obtain⟨vs,h1,h2,h3⟩:=h
 have hn:∀{u:Value} {e:TypeId} {n:Nat} {xs:List Value},w.ownsRow base e 1 u n xs→∀k∈S,u.ownBlock≠some k:=fun{u e n xs} hu k hk he=>by
  have h4:=hS k hk;have:=(zre hu (k:=k) (by unfold ownS;rw[he];simp)).1;omega
 exact⟨vs,zrd h1 hf (hn h1),h2,fun i x hx=>by
  obtain⟨va,k1,k2⟩:=h3 i x hx;exact⟨va,k1,zrd k2 hf (hn k2)⟩⟩
theorem RecO.fr0{w w':World}{base:Nat}{v:Value}{L:List (List Nat)}(h:RecO w base v L)(hf:Fr [] w w'):RecO w' base v L:=h.fr hf (fun k hk=>by simp at hk)
theorem RecO.lo{w:World}{base base':Nat}{v:Value}{L:List (List Nat)}(h:RecO w base v L)(hb:base'≤base):RecO w base' v L:=by
 obtain⟨vs,h1,h2,h3⟩:=h
 exact⟨vs,zrf h1 hb,h2,fun i x hx=>by
  obtain⟨va,k1,k2⟩:=h3 i x hx;exact⟨va,k1,zrf k2 hb⟩⟩
theorem RecO.recA{w:World}{base:Nat}{v:Value}{L:List (List Nat)}(h:RecO w base v L)(hb:∀x∈L,∀b∈x,b<256)(hl:∀x∈L,x.length≤1099511627776)(hL:L.length≤1048576):∃ad cap,v= .slice ad L.length cap∧RecA (fun k=>base≤k) w ad L:=by
 obtain⟨vs,h1,h2,h3⟩:=h;obtain⟨_,⟨rfl,k2⟩|⟨g,cap,cur,rfl,kb,kg,_,_,_,kt⟩⟩:=h1
 ·exact⟨none,0,by rw[k2],fun i hi=>by omega,by omega⟩
 ·refine⟨_,_,rfl,fun i hi=> ?_,by omega⟩
  obtain⟨va,e1,e2⟩:=h3 i _ (List.getElem?_eq_getElem hi);obtain⟨a,c,rfl,hby,hge⟩:=e2.byt (hb _ (List.getElem_mem hi)) (hl _ (List.getElem_mem hi));refine⟨g,0,a,c,rfl,?_,?_,Blk.lt kg,kb,fun h p e=>hge h p e⟩
  ·rw[Nat.zero_add,Blk.cell kg,List.getElem?_eq_getElem hi]
   have h3:(cur.toList.take (L.length*1))[i]?=vs[i]?:=by rw[kt]
   rw[List.getElem?_take,if_pos (by omega),e1]at h3;rw[Option.getD_some,←h3];simp
  ·rw[List.getElem?_eq_getElem hi]
   exact hby
theorem zri:∃i,prog.info? 49=some i∧i.zero=some (.slice none 0 0)∧i.size=1∧i.bytes=24:=by
 have h:(prog.info? 49).map (fun i=>(i.zero,i.size,i.bytes))=some (some (.slice none 0 0),1,24):=by kernel_rfl
 cases hi:prog.info? 49 with
 |none=>rw[hi]at h;cases h
 |some i=>
  rw[hi]at h;simp at h;exact⟨i,rfl,h.1,h.2.1,h.2.2⟩
theorem zrj(W0:World)(base:Nat)(v:Value)(n:Nat)(vs:List Value)(h:W0.ownsRow base 49 1 v n vs)(ad:Option Addr)(m c:Nat)(hn:n≤1048576)(hb:base≤W0.heap.size):∃v' w',(Builtin.append_ #[34,34] 34 #[v,.slice (some ⟨W0.heap.size,0,none⟩) 1 1]).run prog (W0.alloc (.cells #[.slice ad m c] 49))= .ok v' w'∧w'.ownsRow base 49 1 v' (n+1) (vs++ [.slice ad m c])∧Fr (ownS v) W0 w':=by
 obtain⟨i0,hi,hz0,hz1,hz2⟩:=zri;obtain⟨v',w',hrun,h2,h3,_⟩:=run_append_own_at (P:=prog) (W0.alloc (.cells #[.slice ad m c] 49)) base 34 34 49 i0 (.slice none 0 0) 1 24 underlying34 hi hz0 hz1 hz2 rfl (by decide) v n vs (h.alloc _) ⟨W0.heap.size,0,none⟩ 1 1 [.slice ad m c] (by simp) (zhx _ _ _) (by simp[Value.oneCell']) (by unfold maxLen;omega) (by omega) (by simp;omega);exact⟨v',w',hrun,h2,zhw h3⟩
theorem RecO.snoc{w w':World}{base:Nat}{v v':Value}{L:List (List Nat)}{vs:List Value}{va:Value}{x:List Nat}(h1:w.ownsRow base 49 1 v L.length vs)(h2:vs.length=L.length)(h3:∀(i:Nat) (x:List Nat),L[i]?=some x→∃va,vs[i]?=some va∧OwnB w base va x)(hx:OwnB w base va x)
  (hn:w'.ownsRow base 49 1 v' (L.length+1) (vs++ [va])) (hf:Fr (ownS v) w w'):RecO w' base v' (L++ [x]):=by
 refine⟨vs++ [va],by rw[List.length_append];exact hn,by simp[h2],fun i y hy=> ?_⟩;have hne:∀{u:Value} {l:List Nat},OwnB w base u l→OwnB w' base u l:=fun{u l} hu=>zrd hu hf (zrg h1 hu (by decide));by_cases hi:i<L.length
 ·rw[List.getElem?_append_left hi]at hy
  obtain⟨vb,k1,k2⟩:=h3 i y hy;exact⟨vb,by rw[List.getElem?_append_left (by omega)];exact k1,hne k2⟩
 ·rw[List.getElem?_append_right (by omega)]at hy
  have hl:=(List.getElem?_eq_some_iff.1 hy).1;simp at hl;have e:i=L.length:=by omega
  subst e;simp at hy;subst hy;exact⟨va,by rw[←h2];simp,hne hx⟩
theorem zrk(w:World)(A:Addr)(n c:Nat)(x:List Nat)(hn:x.length=n)(hb:Byt w (some A) x):Calls prog 142 #[.slice (some A) n c] w fun e w'=>∃ad c',e= .returned (.slice ad n c')∧OwnB w' w.heap.size (.slice ad n c') x∧Fr [] w w':=by
 obtain⟨v',w',hrun,h2,h3,h4⟩:=zbf (w.alloc (.cells #[] 5)) w.heap.size _ [] (zrc w) (some A) c x (hb.fr ((Fr.refl [] w).alloc _) (by simp)) (by have:=hb.len;simp;omega) (by simp);rw[List.nil_append]at h2;obtain⟨a2,c2,rfl,_⟩:=h2.byt hb.byte hb.len;rw[hn]at hrun h2;have F:=show Fr [] w w' from OwnB.fr (zrc w) h3 ((Fr.refl [] w).alloc _) (Nat.le_refl _);clear h3 h4 hb;have hnil:=Lib.run_eql_slice_nil (P:=prog) w 49 5 (some A) n c 0 0 underlying49;go_in;go_wp2_with (first|(at_builtin;refine zrb rfl (.tmp 5) (.tmp 6) 49 rfl rfl _ _ _ _ rfl rfl hrun ?_)|fail);go_ret;exact⟨a2,c2,rfl,h2,F⟩
theorem Byt.part{w:World}{g o:Nat}{l:List Nat}(h:Byt w (some ⟨g,o,none⟩) l)(x n o':Nat)(hn:x+n≤l.length)(ho:0<n→o'=o+x):Byt w (some ⟨g,o',none⟩) ((l.drop x).take n):=by
 have hl:((l.drop x).take n).length=n:=by simp;omega
 refine⟨fun i hi=> ?_,fun b hb=>h.byte b (List.mem_of_mem_drop (List.mem_of_mem_take hb)),by have:=h.len;omega⟩;obtain⟨g',o2,e,hc,hg⟩:=h.at_ (x+i) (by omega);injection e with e;injection e with e1 e2;subst e1 e2;refine⟨g,o',rfl,?_,hg⟩;rw[ho (by omega),show o+x+i=o+(x+i)by omega,hc,List.getElem?_take,if_pos (by omega),List.getElem?_drop]
theorem zrl{L:List (List Nat)}{k:Nat}{x:List Nat}(h:L[k]?=some x):((zqj L).drop (2+2*L.length+(L.take k).flatten.length)).take x.length=x:=by
 have hl:((zqi 0 L).flatMap le2).length=2*L.length:=by rw[zqo,zqn]
 have e0:(zqj L).drop (2+2*L.length+(L.take k).flatten.length)=L.flatten.drop (L.take k).flatten.length:=by
  unfold zqj;rw[show 2+2*L.length+(L.take k).flatten.length=(2*L.length+(L.take k).flatten.length)+1+1 from by omega,List.drop_succ_cons,List.drop_succ_cons,List.drop_append,hl,List.drop_eq_nil_of_le (by omega),List.nil_append];congr 1;omega
 have e1:L.flatten=(L.take k).flatten++(x++(L.drop (k+1)).flatten):=by
  conv=>lhs;rw[←List.take_append_drop k L,List.flatten_append]
  congr 1;rw[List.drop_eq_getElem_cons (List.getElem?_eq_some_iff.1 h).1,List.flatten_cons,(List.getElem?_eq_some_iff.1 h).2]
 rw[e0];conv=>lhs;rw[e1]
 rw[List.drop_append,List.drop_of_length_le (Nat.le_refl _),Nat.sub_self,List.drop_zero,List.nil_append,List.take_append,List.take_of_length_le (Nat.le_refl _),Nat.sub_self,List.take_zero,List.append_nil]
theorem zrm(w:World)(a:Option Addr)(c:Nat)(L:List (List Nat))(hG:GoodR L)(hb:Byt w a (zqj L))(hc:(zqj L).length≤c):Calls prog 63 #[.slice a (zqj L).length c] w fun e w'=>∃v,e= .returned (.tuple #[v,(0:Int)])∧RecO w' w.heap.size v L∧Fr [] w w':=by
 have HE:=zra w a c L hG hb;have hn1:=hG.n;have hfl:=hG.flat;have hlen:=zqp L;obtain⟨g,o,rfl,hc0,_⟩:=hb.at_ 0 (by omega);obtain⟨n,hn⟩:∃n,L.length=n:=⟨_,rfl⟩;obtain⟨z,hz⟩:∃z,(zqj L).length=z:=⟨_,rfl⟩;rw[hn]at HE hn1;rw[hz]at HE hc⊢;obtain⟨M,hM⟩:∃M:Nat→Nat,(fun k=>(L.take k).flatten.length)=M:=⟨_,rfl⟩;have hM':∀k,(L.take k).flatten.length=M k:=fun k=>by rw[←hM]
 have HM:=hid (fun k=>zq9 L k);have HP:=hid (fun k x (hx:L[k]?=some x)=>zrl hx);have HTF:=hid (fun k x (hx:L[k]?=some x)=>zqu hx);have HM0:=hid (show M 0=0 from by rw[←hM' 0];rfl);simp only[hM']at HE HM HP;have HN:=hid hn;have HZ:=hid (And.intro hz (And.intro hlen hfl));have HC:=hid hc;have HM':=hid hM';have hn16:=hn1.2;obtain⟨K,hK⟩:∃K,2+2*n=K:=⟨_,rfl⟩
 obtain⟨o1,ho1⟩:∃o1,(if c=K then some (⟨g,o,none⟩:Addr)else some ⟨g,o+K,none⟩)=some ⟨g,o1,none⟩:=by
  by_cases e:c=K
  ·exact⟨o,by rw[if_pos e]⟩
  ·exact⟨o+K,by rw[if_neg e]⟩
 have wa:IntKind.i64.wrap (2*(n:Int))=((2*n:Nat):Int):=by rw[i6 _];push_cast;rfl
 have wb:IntKind.i64.wrap (2+((2*n:Nat):Int))=(K:Int):=by rw[i6 _];omega
 have wb':(2:Int)+2*n=(K:Int):=by omega
 have x0:(0:Int)≤K:=by omega
 have x1:(K:Int)≤z:=by omega
 have x2:(K:Int)≤c:=by omega
 have x1':K≤z:=by omega
 have x2':K≤c:=by omega
 have HKK:=hid hK;clear hM hn hz hlen hfl hc hc0 hn1 hG hM' hK;go_in;go_wp2_with fail;go_call HE as e w2 ⟨ge,rfl,hge,he,f2⟩;have E2:=hid (And.intro hge he);clear hge he HE;obtain⟨i0,hi0,hz0,hz1,hz2⟩:=zri;obtain⟨w3,hm3,hO3,hg3⟩:=run_make_own (P:=prog) w2 w.heap.size 34 49 i0 (.slice none 0 0) 1 underlying34 hi0 hz0 hz1 .i64 .i64 n (by rw[hz2];omega) (by unfold maxLen;omega) f2.size;have F3:=show Fr [] w w3 from f2.trans (Fr.of_grown hg3 (fun g e=>by cases e));have O3:=show RecO w3 w.heap.size (.slice (some ⟨w2.heap.size,0,none⟩) 0 n) (L.take 0)from⟨[],by rw[List.take_zero];exact hO3,by rw[List.take_zero];rfl,fun i x hx=>by rw[List.take_zero]at hx;cases hx⟩;have E3:=hid (And.intro E2.1 (E2.2.fr (Fr.of_grown hg3 (fun g e=>by cases e):Fr [] w2 w3) (by simp)));clear hO3 hg3 hi0 hz0 hz1 hz2 E2 f2;go_wp2;go_loopg [7,8,30] (n+1) (fun gk v7 v8 v30 W=>∃i:Nat,v8= .int .i64 (M i:Nat)∧v30= .int .i64 i∧(i+gk=n+1∧i≤n)∧Hid (RecO W w.heap.size v7 (L.take i))∧Hid (Fr [] w W)∧Hid (Blk W ge 3 (zbk n fun i=>(M (i+1):Int))));case atStart=>exact⟨0,by rw[HM0.out];rfl,rfl,by omega,O3,F3,hid E3.2⟩
 case round=>
  clear O3 F3 hm3;obtain⟨i,rfl,rfl,hi,O4,F4,E4⟩:=hrel;by_cases hlt:i<n
  ·have b6':=dT (i<n)
   have hL:i<L.length:=by rw[HN.out];exact hlt
   have hgd:L[i]?=some L[i] :=List.getElem?_eq_getElem hL;generalize L[i]'hL=x at*;obtain⟨t1,t2⟩:=HTF.out i x hgd;have hp:=HP.out i x hgd;rw[HN.out,HKK.out]at hp;have hM1:M (i+1)=M i+x.length:=by rw[←HM'.out,t1,List.length_append,HM'.out]
   rw[HM'.out]at t2;obtain⟨z1,z2,z3⟩:=HZ.out;rw[HN.out,HKK.out,z1]at z2;generalize hm:x.length=m at hp t2 hM1;have hcz:=HC.out;have cc:=E4.cellF i hlt;have hCK:K+(M i+m)≤z:=by omega
   obtain⟨o2,ho2⟩:∃o2,(if c-K=M i then(some ⟨g,o1,none⟩:Option Addr)else some ⟨g,o1+M i,none⟩)=some ⟨g,o2,none⟩:=by
    by_cases e:c-K=M i
    ·exact⟨o1,by rw[if_pos e]⟩
    ·exact⟨o1+M i,by rw[if_neg e]⟩
   have hox:0<m→o2=o+(K+M i):=fun h=>by
    have e1:¬(c=K):=by omega
    have e2:¬(c-K=M i):=by omega
    rw[if_neg e1]at ho1;rw[if_neg e2]at ho2;injection ho1 with ho1;injection ho1 with ho1;injection ho2 with ho2;injection ho2;omega
   have hbx:Byt wr (some ⟨g,o2,none⟩) x:=by
    have:=(hb.fr F4.out (by simp)).part (K+M i) m o2 (by rw[z1];omega) hox;rw[hp]at this;exact this
   have HCl:=hid (zrk wr ⟨g,o2,none⟩ m (c-K-M i) x hm hbx);have hMi:M (i+1)-M i=m:=by omega
   have y0:(0:Int)≤M i:=by omega
   have y1:(M i:Int)≤M (i+1):=by omega
   have y1':M i≤M (i+1):=by omega
   have y2:(M (i+1):Int)≤(c-K:Nat):=by omega
   have y2':M (i+1)≤c-K:=by omega
   have i2:(0:Int)≤i:=by omega
   have i3:(i:Int)<n:=by omega
   have wi:=i6 ((i:Int)+1);have HT:=hid (show L.take (i+1)=L.take i++ [x]from by rw[List.take_add_one,hgd];rfl);have HTl:=hid (show(L.take i).length=i from by rw[List.length_take];omega);clear hgd hp t1 t2 z1 z2 z3 hm hcz hCK hox hbx hL;have HMM:=hid hM1;generalize hm1:M (i+1)=m1 at cc hM1 hMi y1 y1' y2 y2';clear hm1;go_wp2_with fail;go_call HCl.out as e w5 ⟨ad,c',rfl,hO5,f5⟩;have hO4:=O4.fr0 f5;obtain⟨vs,k1,k2,k3⟩:=hO4;rw[HTl.out]at k1 k2;obtain⟨v',w6,hrun,k4,f6⟩:=zrj w5 w.heap.size u7 i vs k1 ad m c' (by omega) (F4.trans f5).size
   have O6:=(show RecO w6 w.heap.size v' (L.take (i+1))from by
    rw[HT.out];exact RecO.snoc (by rw[HTl.out];exact k1) (by rw[HTl.out];exact k2) k3 (zrf hO5 F4.size) (by rw[HTl.out];exact k4) f6)
   have F6:=(F4.trans f5).step f6 (fun k hk=> .inr (zre k1 hk).1);have E6:=(E4.fr f5 (by simp)).fr f6 (zrh k1 (E4.fr f5 (by simp)) (by decide));clear hO5 f5 k1 k2 k3 k4 f6 O4 F4 E4 HCl;go_wp2_with (first|(at_builtin;refine zrb rfl (.tmp 34) (.tmp 40) 34 rfl rfl _ _ _ _ rfl rfl hrun ?_)|fail);go_roundg (gk-1);case measure=>omega
   case rel=>exact⟨i+1,by rw[HMM.out];push_cast;rfl,by go_num,by omega,O6,F6,E6⟩
  ·obtain rfl:i=n:=by omega
   have O5:=(show RecO wr w.heap.size u7 L from by
    have:=O4.out;rw[←HN.out,List.take_length]at this;exact this)
   go_wp2;go_ret2;exact⟨u7,rfl,O5,F4.out⟩
theorem zrn{L:List (List Nat)}{k:Nat}(hk:k<L.length):(zqj L)[2+2*k]?.getD 0=(L.take (k+1)).flatten.length %256∧(zqj L)[3+2*k]?.getD 0=(L.take (k+1)).flatten.length/256:=by
 have h1:=zqs _ _ _ (by rw[zqr L 0 k hk,Nat.zero_add]);have hl:((zqi 0 L).flatMap le2).length=2*L.length:=by rw[zqo,zqn]
 unfold zqj;rw[show 2+2*k=2*k+1+1 from by omega,show 3+2*k=(2*k+1)+1+1 from by omega];rw[List.getElem?_cons_succ,List.getElem?_cons_succ,List.getElem?_cons_succ,List.getElem?_cons_succ];rw[List.getElem?_append_left (by omega),List.getElem?_append_left (by omega),h1.1,h1.2];exact⟨rfl,rfl⟩
theorem zro(W0:World)(base:Nat)(v:Value)(l:List Nat)(h:Rw W0 base v l)(x:Nat)(hl:l.length≤1048500)(hb:base≤W0.heap.size):∃v' w',(Builtin.append_ #[69,69] 69 #[v,.slice (some ⟨W0.heap.size,0,none⟩) 1 1]).run prog (W0.alloc (.cells #[x] 3))= .ok v' w'∧Rw w' base v' (l++ [x])∧Fr (ownS v) W0 w':=by
 obtain⟨v',w',hrun,h2,h3⟩:=zj1 (W0.alloc (.cells #[x] 3)) base v l (h.alloc _) (some ⟨W0.heap.size,0,none⟩) 1 [x] (fun j hj=>by
  obtain rfl:j=0:=by simpa using hj
  exact⟨_,0,rfl,zf3 W0 _ _⟩) (by simp;omega) (by simp;omega)
 exact⟨v',w',hrun,h2,zhw h3⟩
theorem zrp(w:World)(a:Option Addr)(c:Nat)(L:List (List Nat))(hG:GoodR L)(hb:Byt w a (zqj L))(hc:(zqj L).length≤c):Calls prog 126 #[.slice a (zqj L).length c] w fun e w'=>∃v,e= .returned (.tuple #[v,(0:Int)])∧RecO w' w.heap.size v L∧Fr [] w w':=by
 have hn1:=hG.n;have hfl:=hG.flat;have hGs:2+2*L.length+L.flatten.length≤480:=by rw[←hG.size];exact hG.s
 have hlen:=zqp L;obtain⟨g,o,ha,hc0,hg⟩:=hb.at_ 0 (by omega);obtain⟨g',o',ha',hc1,_⟩:=hb.at_ 1 (by omega);rw[ha]at ha';injection ha' with ha';injection ha' with e1 e2;subst e1 e2;have q0:(zqj L)[0]?.getD 0=L.length:=rfl;have q1:(zqj L)[1]?.getD 0=0:=rfl;rw[q0,Nat.add_zero]at hc0;rw[q1]at hc1;subst ha
 have HE:=hid (fun V (hV:Fr [] w V) k (hk:k<L.length)=>(show V.cell? ⟨g,o+(2+2*k),none⟩=some (.int .u8 ((L.take (k+1)).flatten.length %256:Nat))∧V.cell? ⟨g,o+(3+2*k),none⟩=some (.int .u8 ((L.take (k+1)).flatten.length/256:Nat))from by
  obtain⟨g1,o1,e1,h1,_⟩:=hb.at_ (2+2*k) (by omega);obtain⟨g2,o2,e2,h2,_⟩:=hb.at_ (3+2*k) (by omega);injection e1 with e1;injection e1 with e1 e1';subst e1 e1';injection e2 with e2;injection e2 with e2 e2';subst e2 e2';rw[(zrn hk).1]at h1;rw[(zrn hk).2]at h2;exact⟨(hV.cell (p:=⟨g,o+(2+2*k),none⟩) hg (by simp)).trans h1,(hV.cell (p:=⟨g,o+(3+2*k),none⟩) hg (by simp)).trans h2⟩))
 obtain⟨n,hn⟩:∃n,L.length=n:=⟨_,rfl⟩;obtain⟨z,hz⟩:∃z,(zqj L).length=z:=⟨_,rfl⟩;rw[hn]at HE hn1 hc0;rw[hz]at hc⊢;obtain⟨M,hM⟩:∃M:Nat→Nat,(fun k=>(L.take k).flatten.length)=M:=⟨_,rfl⟩;have hM':∀k,(L.take k).flatten.length=M k:=fun k=>by rw[←hM]
 have HM:=hid (fun k=>zq9 L k);have HTL:=hid (show(L.take L.length).flatten.length=L.flatten.length from by rw[List.take_length]);have HP:=hid (fun k x (hx:L[k]?=some x)=>zrl hx);have HTF:=hid (fun k x (hx:L[k]?=some x)=>zqu hx);have HM0:=hid (show M 0=0 from by rw[←hM' 0];rfl);simp only[hM']at HE HM HP HTL;have HN:=hid hn;have HZ:=hid (And.intro hz (And.intro hlen hfl));have HC:=hid hc;have HM':=hid hM';have HGS:=hid hGs;rw[hn,hz]at hlen;rw[hn]at hGs HTL;generalize hF:L.flatten.length=F at hlen hGs hfl HM HTL;have hn16:=hn1.2;have hn01:=hn1.1;obtain⟨K,hK⟩:∃K,2+2*n=K:=⟨_,rfl⟩;have b1:=dF ((z:Int)<2);have b1':=dF (z<2);have b2:((n:Int)==0)=false:=by simp;omega
 have b2':(n==0)=false:=by simp;omega
 have b3:=dF ((16:Int)<n);have b3':=dF (16<n);have b4':=dF (z<K);have i0:(0:Int)<z:=by omega
 have i1:(1:Int)<z:=by omega
 have i0':0<z:=by omega
 have wa:IntKind.i64.wrap (2*(n:Int))=((2*n:Nat):Int):=by rw[i6 _];push_cast;rfl
 have wb:IntKind.i64.wrap (2+((2*n:Nat):Int))=(K:Int):=by rw[i6 _];omega
 have wb':(2:Int)+2*n=(K:Int):=by omega
 have wn:IntKind.i64.wrap (n:Int)=(n:Int):=i6 _;have HKK:=hid hK;have HLEN:=hid hlen;clear hM hn hz hn1 hG hM' hK hF q0 q1 hlen;go_in;go_wp2;clear b1 b1' b2 b2' b3 b3' b4' hc0 hc1;go_loopg [6,7] (n+1) (fun gk v6 v7 W=>∃i:Nat,v7= .int .i64 i∧(i+gk=n+1∧i≤n)∧Hid (Rw W w.heap.size v6 ((List.range i).map fun k=>M (k+1)))∧Hid (Fr [] w W));case atStart=>exact⟨0,rfl,by omega,hid (Rw.nil _ _),hid (Fr.refl _ _)⟩
 case round=>
  obtain⟨i,rfl,hi,O2,F2⟩:=hrel;by_cases hlt:i<n
  ·have b6':=dT (i<n)
   have hm:=(HM.out (i+1)).2;generalize hm1:M (i+1)=m at hm;have ca:=fun V (hV:Fr [] w V)=>HE.out V hV i hlt;rw[hm1]at ca;have HMM:=hid hm1;clear hm1;have ws1:=i6 (2*(i:Int));have ws2:IntKind.i64.wrap (2+2*(i:Int))=((2+2*i:Nat):Int):=by rw[i6 _];push_cast;rfl
   have ws3:IntKind.i64.wrap (3+2*(i:Int))=((3+2*i:Nat):Int):=by rw[i6 _];push_cast;rfl
   have wc1:IntKind.i64.wrap ((m %256:Nat):Int)=((m %256:Nat):Int):=i6 _;have wc2:IntKind.i64.wrap ((m/256:Nat):Int)=((m/256:Nat):Int):=i6 _;have wc3:IntKind.i64.wrap (256*((m/256:Nat):Int))=256*((m/256:Nat):Int):=i6 _;have wc4:IntKind.i64.wrap (((m %256:Nat):Int)+256*((m/256:Nat):Int))=(m:Int):=by rw[i6 _];omega
   have hlen:=HLEN.out;obtain⟨p1,hp1⟩:∃p,2+2*i=p:=⟨_,rfl⟩;obtain⟨p2,hp2⟩:∃p,3+2*i=p:=⟨_,rfl⟩;have t1:(0:Int)≤p1:=by omega
   have t2:(0:Int)≤p2:=by omega
   have t3:(p1:Int)<z:=by omega
   have t4:(p2:Int)<z:=by omega
   rw[hp1]at ws2 ca;rw[hp2]at ws3 ca;clear hp1 hp2 hlen;generalize m %256=ml at*;generalize m/256=mh at*;obtain⟨ca1,ca2⟩:=ca wr F2.out;obtain⟨cd1,cd2⟩:=ca wr.drew F2.drew;obtain⟨v',w',hrun,hO3,f3⟩:=zro wr.drew w.heap.size u6 _ (O2.fr0 (Fr.refl [] wr).drew) m (by simp;omega) F2.size;have hob:=O2.out;have F3:=(F2.trans (Fr.refl [] wr).drew).step f3 (fun k hk=> .inr (hob.lt k (zhv hk)).1);have HRUN:=hid hrun;have HCF:=hid ca;clear hrun f3 hob ca O2;go_wp2_with fail;refine wp_region_held_drew (S:=fun W=>W.cell? ⟨g,o+p1,none⟩=some (.int .u8 ml)∧W.cell? ⟨g,o+p2,none⟩=some (.int .u8 mh)) (by kernel_rfl) (⟨cd1,cd2⟩) (fun yH=> ?_);refine tkZ 0 ?_;refine tkZ 1 ?_;refine tkZ 2 ?_;refine tkZ 3 ?_;refine tkZ 4 ?_;refine tkZ 5 ?_;refine tkZ 6 ?_;refine tkZ 7 ?_;refine tkZ 8 ?_;refine tkZ 9 ?_;refine tkZ 10 ?_;refine tkZ 11 ?_;refine tkZ 12 ?_;refine tkZ 13 ?_;refine tkZ 14 ?_;refine tkZ 15 ?_;refine tkZ 16 ?_;refine tkC 17 fun K hK=> ?_;go_simp;refine hK.out _ _ _ (HCF.out _ (F2.drew.alloc _)) fun yH=> ?_;clear hK K;refine tkC 18 fun K hK=> ?_;refine zj4 (.tmp 42) (.tmp 59) 69 rfl rfl _ _ _ _ (by simp[Act.eval]) (by simp[Act.eval,Act.put]) HRUN.out ?_;refine hK.out _ _ _ (HCF.out _ F3) fun yH=> ?_;clear hK K;refine tkZ 19 ?_;refine wpAnyH_done (by kernel_rfl) ?_ _;clear cd1 cd2 ca1 ca2 HRUN HCF;have HR3:=hid (show(List.range i).map (fun k=>M (k+1))++ [m] =(List.range (i+1)).map fun k=>M (k+1)from by rw[List.range_succ,List.map_append,←HMM.out];rfl);have O4:=show Rw w' w.heap.size v' ((List.range (i+1)).map fun k=>M (k+1))from by rw[←HR3.out];exact hO3
   obtain⟨ad3,cap3,hv3,hr3⟩:=zbj O4;rw[List.length_map,List.length_range]at hv3;subst hv3;obtain⟨g3,rfl,_,hw3⟩:=hr3 (by simp)
   have cj:=fun V (hV:Fr [] w' V) j (hj:j<i+1)=>(show V.cell? ⟨g3,j,none⟩=some (.int .i64 (M (j+1):Nat))from by
    have:=(hw3.fr hV (by simp)).cell j (by simp;omega);simpa using this)
   clear hO3 HR3 hr3 hw3;have i2:(0:Int)≤i:=by omega
   have i3:(i:Int)<i+1:=by omega
   have wi:=i6 ((i:Int)+1);have ci:=fun V (hV:Fr [] w' V)=>cj V hV i (by omega);rw[HMM.out]at ci;have ci1:=ci w' (Fr.refl _ _);have hrel2:=hid (show∃j:Nat,(Value.int .i64 ((i:Int)+1))= .int .i64 j∧(j+(gk-1)=n+1∧j≤n)∧Hid (Rw w'.drew w.heap.size (.slice (some ⟨g3,0,none⟩) (i+1) cap3) ((List.range j).map fun k=>M (k+1)))∧Hid (Fr [] w w'.drew)from⟨i+1,by push_cast;rfl,by omega,hid (O4.fr0 (Fr.refl [] w').drew),hid F3.drew⟩);by_cases h0:i=0
   ·clear cj ci ci1
    go_wp2_with fail;refine wp_region_held_drew (S:=fun _=>True) (by kernel_rfl) (trivial) (fun yH=> ?_);refine tkZ 0 ?_;refine tkZ 1 ?_;refine tkZ 2 ?_;refine tkM 3 ?_;refine tkM 4 ?_;refine tkM 5 ?_;refine tkM 6 ?_;refine tkM 7 ?_;refine tkM 8 ?_;refine tkM 9 ?_;refine tkM 10 ?_;refine tkM 11 ?_;refine tkM 12 ?_;refine tkZ 13 ?_;refine wpAnyH_done (by kernel_rfl) ?_ _;go_wp2;go_roundg (gk-1);case measure=>omega
    case rel=>
     obtain⟨j,e,r⟩:=hrel2.out;exact⟨j,by rw[←e,h0];rfl,r⟩
   ·have d0':=dT (0<i)
    obtain⟨j,hj⟩:∃j,i-1=j:=⟨_,rfl⟩;have wj:IntKind.i64.wrap ((i:Int)-1)=(j:Int):=by rw[i6 _];omega
    have j0:(0:Int)≤j:=by omega
    have j1:(j:Int)<i+1:=by omega
    have hmj:M (j+1)≤m:=by
     have:=(HM.out i).1;have e:j+1=i:=by omega
     rw[e,←HMM.out];exact this
    have cj2:=fun V (hV:Fr [] w' V)=>cj V hV j (by omega);generalize M (j+1)=mj at*;have dm':=dF (m<mj);have cdi:=ci w'.drew (Fr.refl _ _).drew;have cdj:=cj2 w'.drew (Fr.refl _ _).drew;clear cj ci ci1 cj2 hmj hj;go_wp2_with fail;refine wp_region_held_drew (S:=fun W=>W.cell? ⟨g3,i,none⟩=some (.int .i64 m)∧W.cell? ⟨g3,j,none⟩=some (.int .i64 mj)) (by kernel_rfl) (⟨cdi,cdj⟩) (fun yH=> ?_);refine tkZ 0 ?_;refine tkZ 1 ?_;refine tkZ 2 ?_;refine tkZ 3 ?_;refine tkZ 4 ?_;refine tkZ 5 ?_;refine tkZ 6 ?_;refine tkZ 7 ?_;refine tkZ 8 ?_;refine tkZ 9 ?_;refine tkZ 10 ?_;refine tkZ 11 ?_;refine tkZ 12 ?_;refine tkZ 13 ?_;refine wpAnyH_done (by kernel_rfl) ?_ _;go_wp2;go_roundg (gk-1);case measure=>omega
    case rel=>exact hrel2.out
  ·obtain rfl:i=n:=by omega
   have b6':=dF (i<i);obtain⟨ad3,cap3,hv3,hr3⟩:=zbj O2.out;rw[List.length_map,List.length_range]at hv3;subst hv3;obtain⟨g3,rfl,hg3,hw3⟩:=hr3 (by simp;omega)
   have HCJ:=hid (fun V (hV:RowI V g3 cap3 ((List.range i).map fun k=>M (k+1))) j (hj:j<i)=>(show V.cell? ⟨g3,j,none⟩=some (.int .i64 (M (j+1):Nat))from by
    have:=hV.cell j (by simp;omega);simpa using this))
   have cc:=HCJ.out wr hw3 (i-1) (by omega);rw[show i-1+1=i from by omega,HTL.out]at cc;generalize hj:i-1=j at cc;have wj:IntKind.i64.wrap ((i:Int)-1)=(j:Int):=by rw[i6 _];omega
   have j0:(0:Int)≤j:=by omega
   have j1:(j:Int)<i:=by omega
   have eL:IntKind.i64.wrap ((z:Int)-K)=(F:Int):=by have:=HLEN.out;rw[i6 _];have:=HKK.out;omega
   have b7:decide ((480:Int)<z)=false:=by have:=HLEN.out;exact decide_eq_false (by omega)
   have b7':decide (480<z)=false:=by have:=HLEN.out;exact decide_eq_false (by omega)
   have F4:=F2.out;clear hr3 O2;go_wp2;clear b6' b7 b7' eL wj j0 j1 cc;generalize wr=w1 at*;go_loopg [8,9,10] (i+1) (fun gk v8 v9 v10 W=>∃k:Nat,v9= .int .i64 (M k:Nat)∧v10= .int .i64 k∧(k+gk=i+1∧k≤i)∧Hid (RecO W w.heap.size v8 (L.take k))∧Hid (Fr [] w W)∧Hid (RowI W g3 cap3 ((List.range i).map fun k=>M (k+1))));case atStart=>exact⟨0,by rw[HM0.out];rfl,rfl,by omega,hid ⟨[],⟨rfl,.inl ⟨rfl,rfl⟩⟩,rfl,fun i x hx=>by cases hx⟩,F4,hw3⟩
   case round=>
    obtain⟨k,rfl,rfl,hk,O5,F5,W5⟩:=hrel;by_cases hlt:k<i
    ·have b6':=dT (k<i)
     have hL:k<L.length:=by rw[HN.out];exact hlt
     have hgd:L[k]?=some L[k] :=List.getElem?_eq_getElem hL;generalize L[k]'hL=x at*;obtain⟨t1,t2⟩:=HTF.out k x hgd;have hp:=HP.out k x hgd;rw[HN.out,HKK.out]at hp;have hM1:M (k+1)=M k+x.length:=by rw[←HM'.out,t1,List.length_append,HM'.out]
     rw[HM'.out]at t2;obtain⟨z1,z2,z3⟩:=HZ.out;rw[HN.out,HKK.out,z1]at z2;generalize hm:x.length=m at hp t2 hM1;have hcz:=HC.out;have cc:=HCJ.out wr W5.out k hlt;obtain⟨q1,hq1⟩:∃q,K+M k=q:=⟨_,rfl⟩;obtain⟨q2,hq2⟩:∃q,K+M (k+1)=q:=⟨_,rfl⟩;have hzz:z≤480:=by have:=HGS.out;have:=HKK.out;rw[HN.out]at*;omega
     have w1q:IntKind.i64.wrap ((K:Int)+M k)=q1:=by rw[i6 _];omega
     have w2q:IntKind.i64.wrap ((K:Int)+M (k+1))=q2:=by rw[i6 _];omega
     have hqm:q2-q1=m:=by omega
     have y0:(0:Int)≤q1:=by omega
     have y1:(q1:Int)≤q2:=by omega
     have y2:(q2:Int)≤c:=by omega
     obtain⟨o2,ho2⟩:∃o2,(if c=q1 then(some ⟨g,o,none⟩:Option Addr)else some ⟨g,o+q1,none⟩)=some ⟨g,o2,none⟩:=by
      by_cases e:c=q1
      ·exact⟨o,by rw[if_pos e]⟩
      ·exact⟨o+q1,by rw[if_neg e]⟩
     have hox:0<m→o2=o+(K+M k):=fun h=>by
      have e2:¬(c=q1):=by omega
      rw[if_neg e2]at ho2;injection ho2 with ho2;injection ho2;omega
     have hbx:Byt wr (some ⟨g,o2,none⟩) x:=by
      have:=(hb.fr F5.out (by simp)).part (K+M k) m o2 (by rw[z1];omega) hox;rw[hp]at this;exact this
     obtain⟨vb,w3,hrun1,hB1,hB2,hB3⟩:=zbf (wr.alloc (.cells #[] 5)) wr.heap.size _ [] (zrc wr) (some ⟨g,o2,none⟩) (c-q1) x (hbx.fr ((Fr.refl [] wr).alloc _) (by simp)) (by have:=hbx.len;simp;omega) (by simp);rw[List.nil_append]at hB1;obtain⟨a2,c2,rfl,_⟩:=hB1.byt hbx.byte hbx.len;rw[hm]at hrun1 hB1;have f3:Fr [] wr w3:=OwnB.fr (zrc wr) hB2 ((Fr.refl [] wr).alloc _) (Nat.le_refl _);have i2:(0:Int)≤k:=by omega
     have i3:(k:Int)<i:=by omega
     have wi:=i6 ((k:Int)+1);have HT:=hid (show L.take (k+1)=L.take k++ [x]from by rw[List.take_add_one,hgd];rfl);have HTl:=hid (show(L.take k).length=k from by rw[List.length_take];omega);have hO4:=O5.fr0 f3;obtain⟨vs,k1,k2,k3⟩:=hO4;rw[HTl.out]at k1 k2;obtain⟨v',w6,hrun2,k4,f6⟩:=zrj w3 w.heap.size u8 k vs k1 a2 m c2 (by omega) (Nat.le_trans F5.size f3.size)
     have O6:=(show RecO w6 w.heap.size v' (L.take (k+1))from by
      rw[HT.out];exact RecO.snoc (by rw[HTl.out];exact k1) (by rw[HTl.out];exact k2) k3 (zrf hB1 F5.size) (by rw[HTl.out];exact k4) f6)
     have F6:=(F5.trans f3).step f6 (fun k hk=> .inr (zre k1 hk).1)
     have W6:=(show RowI w6 g3 cap3 _ from by
      have r1:=W5.fr f3 (by simp);obtain⟨cur,q,_⟩:=id r1;exact r1.fr f6 (zrh k1 q (by decide)))
     have HRUN1:=hid hrun1;have HRUN2:=hid hrun2;have c2f:=HCJ.out w6 W6 k hlt;obtain⟨mk,hmk⟩:∃mk,M (k+1)=mk:=⟨_,rfl⟩;have ca2:=HCJ.out (wr.alloc (.cells #[] 5)) (W5.fr ((Fr.refl [] wr).alloc _) (by simp)) k hlt;rw[hmk]at cc c2f w2q ca2;have HMK:=hid hmk;clear hmk;clear hrun1 hrun2 hM1 hgd hp t1 t2 z1 z2 z3 hm hcz hzz hL hq1 hq2 hox hbx hB1 hB2 hB3 f3 k1 k2 k3 k4 f6 O5 F5 W5;go_wp2_with (first|(at_builtin;refine zrb rfl (.tmp 106) (.tmp 117) 49 rfl rfl _ _ _ _ rfl rfl HRUN1.out ?_)|(at_builtin;refine zrb rfl (.tmp 105) (.tmp 119) 34 rfl rfl _ _ _ _ rfl rfl HRUN2.out ?_)|fail);go_roundg (gk-1);case measure=>omega
     case rel=>exact⟨k+1,by rw[HMK.out],by go_num,by omega,O6,F6,W6⟩
    ·obtain rfl:k=i:=by omega
     have O6:=(show RecO wr w.heap.size u8 L from by
      have:=O5.out;rw[←HN.out,List.take_length]at this;exact this)
     go_wp2;go_ret2;exact⟨u8,rfl,O6,F5.out⟩
theorem RecO.val{w:World}{base:Nat}{v:Value}{L:List (List Nat)}(h:RecO w base v L):∃ad cap,v= .slice ad L.length cap:=by
 obtain⟨vs,⟨_,⟨rfl,k2⟩|⟨g,cap,cur,rfl,_⟩⟩,_⟩:=h
 ·exact⟨none,0,by rw[k2]⟩
 ·exact⟨_,_,rfl⟩
def nilS:Value:= .slice none 0 0
theorem zrq:(prog.info? 49).map (fun i=>(i.zero,i.size,i.bytes))=some (some (.slice none 0 0),1,24):=by kernel_rfl
theorem zrr(n:Nat):madeCells #[Value.slice none 0 0] n=Array.replicate n (Value.slice none 0 0):=by
 apply Array.ext
 ·simp[madeCells]
 ·intro i h1 h2
  simp[madeCells,Nat.mod_one]
theorem zrs(n:Nat)(hn:n≤1048576)(w:World):(Instr.makeSlice 34 (.int .i64 (n:Int)) (.int .i64 (n:Int))).run prog w= .ok (.slice (some ⟨w.heap.size,0,none⟩) n n) (w.alloc (.cells (Array.replicate n (Value.slice none 0 0)) 49)):=by
 rw[←zrr];exact run_make_row' 34 49 (.slice none 0 0) 24 underlying34 zrq rfl .i64 .i64 n (by omega) (by omega) w
theorem zrt(vs:List Value)(m i:Nat)(v:Value)(hi:vs.length=i):(vs++List.replicate (m+1) nilS).set i v=(vs++ [v])++List.replicate m nilS:=by
 rw[List.replicate_succ,List.set_append_right _ _ (by omega),hi,Nat.sub_self,List.set_cons_zero,List.append_assoc];rfl
theorem zru(w:World)(a:Option Addr)(n c:Nat)(x:List Nat)(hn:x.length=n)(hb:Byt w a x):Calls prog 142 #[.slice a n c] w fun e w'=>∃ad c',e= .returned (.slice ad n c')∧OwnB w' w.heap.size (.slice ad n c') x∧Fr [] w w':=by
 cases a with
 |some A=>exact zrk w A n c x hn hb
 |none=>
  have hx:x= [] :=by
   cases x with
   |nil=>rfl
   |cons y t=>
    obtain⟨g,o,e,_⟩:=hb.at_ 0 (by simp);cases e
  subst hx;obtain rfl:n=0:=hn.symm;have hnil:=Lib.run_eql_slice_nil (P:=prog) w 49 5 none 0 c 0 0 underlying49;clear hb;go_in;go_wp2;go_ret;exact⟨none,0,rfl,OwnB.nil _ _,Fr.refl _ _⟩
theorem zrv{P:Nat→Prop}(w:World)(ad:Option Addr)(cap:Nat)(L:List (List Nat))(h:RecA P w ad L)(hL:L.length≤100000):Calls prog 65 #[.slice ad L.length cap] w fun e w'=>∃v,e= .returned v∧RecO w' w.heap.size v L∧Fr [] w w':=by
 obtain⟨n,hn⟩:∃n,L.length=n:=⟨_,rfl⟩;have HN:=hid hn;rw[hn]at hL⊢;have hm:=zrs n (by omega) w;have F0:=(Fr.refl [] w).alloc (.cells (Array.replicate n (Value.slice none 0 0)) 49);have B0:=Blk.new w 49 (Array.replicate n (Value.slice none 0 0));have n0:(0:Int)≤n:=by omega
 clear hn;go_in;go_wp2;generalize w.alloc (.cells (Array.replicate n (Value.slice none 0 0)) 49)=w1 at*;clear hm;go_loopg [11] (n+1) (fun gk v11 W=>∃i:Nat,v11= .int .i64 i∧(i+gk=n+1∧i≤n)∧Hid (Fr [] w W)∧Hid (∃vs,Blk W w.heap.size 49 (vs++List.replicate (n-i) nilS).toArray∧vs.length=i∧∀(k:Nat) (x:List Nat),k<i→L[k]?=some x→∃va,vs[k]?=some va∧OwnB W w.heap.size va x));case atStart=>exact⟨0,rfl,by omega,F0,hid ⟨[],by simpa[nilS]using B0,rfl,fun k x hk=>by omega⟩⟩
 case round=>
  clear F0 B0;obtain⟨i,rfl,hi,F2,HV⟩:=hrel;by_cases hlt:i<n
  ·have b6':=dT (i<n)
   have hLl:i<L.length:=by rw[HN.out];exact hlt
   obtain⟨g,o,a,c,rfl,hc,hb,hg,_⟩:=(h.fr0 F2.out).at_ i hLl;have hgd:L[i]?=some L[i] :=List.getElem?_eq_getElem hLl;rw[hgd]at hc hb;simp only[Option.getD_some]at hc hb;generalize L[i]'hLl=x at*;have HCl:=hid (zru wr a x.length c x rfl hb);have HGD:=hid hgd;generalize hxl:x.length=m at*;have i0:(0:Int)≤i:=by omega
   have i1:(i:Int)<n:=by omega
   have wi:=i6 ((i:Int)+1);clear hb hgd hxl hLl;go_wp2_with fail;go_call HCl.out as e w3 ⟨a3,c3,rfl,k3,f3⟩;obtain⟨vs,h1,h2,h3⟩:=HV.out;have h1':=h1.fr f3 (by simp);have cc:=h1'.cell i;have zz:=h1'.frozen i;obtain⟨m2,hm2⟩:∃m2,n-i=m2+1:=⟨n-i-1,by omega⟩;rw[hm2]at cc h1'
   have cc2:w3.cell? ⟨w.heap.size,i,none⟩=some nilS:=by
    rw[cc,List.getElem?_toArray,List.getElem?_append_right (by omega),h2,Nat.sub_self,List.replicate_succ];rfl
   unfold nilS at cc2;have hset:=h1'.set i (.slice a3 m c3);rw[List.setIfInBounds_toArray,zrt vs m2 i _ h2]at hset;have FF:=(F2.trans f3).setCell (p:=⟨w.heap.size,i,none⟩) (.inr (Nat.le_refl _)) (.slice a3 m c3);have fS:Fr [w.heap.size] w3 (w3.setCell ⟨w.heap.size,i,none⟩ (.slice a3 m c3)):=(Fr.refl _ w3).setCell (p:=⟨w.heap.size,i,none⟩) (.inl (by simp)) _
   have hown:∀{u:Value} {y:List Nat},OwnB w3 w.heap.size u y→OwnB (w3.setCell ⟨w.heap.size,i,none⟩ (.slice a3 m c3)) w.heap.size u y:=fun{u y} hu=>zrd hu fS (fun k hk e=>by
    obtain rfl:=List.mem_singleton.1 hk;exact zrh hu h1' (by decide) (by unfold ownS;rw[e];simp))
   have HV2:=hid (show∃vs,Blk (w3.setCell ⟨w.heap.size,i,none⟩ (.slice a3 m c3)) w.heap.size 49 (vs++List.replicate (n-(i+1)) nilS).toArray∧vs.length=i+1∧∀(k:Nat) (x:List Nat),k<i+1→L[k]?=some x→∃va,vs[k]?=some va∧OwnB (w3.setCell ⟨w.heap.size,i,none⟩ (.slice a3 m c3)) w.heap.size va x from by
    refine⟨vs++ [.slice a3 m c3],by rw[show n-(i+1)=m2 from by omega];exact hset,by simp[h2],fun k y hk hy=> ?_⟩;by_cases e:k<i
    ·obtain⟨va,e1,e2⟩:=h3 k y e hy
     exact⟨va,by rw[List.getElem?_append_left (by omega)];exact e1,hown (zrd e2 f3 (by simp))⟩
    ·obtain rfl:k=i:=by omega
     rw[HGD.out]at hy;obtain rfl:=Option.some.inj hy;exact⟨_,by rw[←h2];simp,hown (zrf k3 F2.size)⟩)
   clear h1 h1' h2 h3 k3 f3 cc hset fS hown HV F2 HCl;go_wp2;go_roundg (gk-1);case measure=>omega
   case rel=>exact⟨i+1,by go_num,by omega,FF,HV2⟩
  ·obtain rfl:i=n:=by omega
   have HE:=(show RecO wr w.heap.size (.slice (some ⟨w.heap.size,0,none⟩) i i) L from by
    obtain⟨vs,h1,h2,h3⟩:=HV.out;rw[Nat.sub_self,List.replicate_zero,List.append_nil]at h1;refine⟨vs,⟨by rw[h2,HN.out,Nat.mul_one],.inr ⟨_,i,_,by rw[HN.out],Nat.le_refl _,h1,by rw[HN.out];exact Nat.le_refl _,by unfold maxLen;omega,by simp[h2],by rw[HN.out,Nat.mul_one];exact List.take_of_length_le (by simp[h2])⟩⟩,by rw[h2,HN.out],fun k x hx=>h3 k x (by rw[←HN.out];exact(List.getElem?_eq_some_iff.1 hx).1) hx⟩)
   clear HV;go_wp2;go_ret;exact⟨_,rfl,HE,F2.out⟩
theorem zrw{P Q:Nat→Prop}(w:World)(a1 a2:Option Addr)(c1 c2:Nat)(L:List (List Nat))(h1:RecA P w a1 L)(h2:RecA Q w a2 L):Calls prog 33 #[.slice a1 L.length c1,.slice a2 L.length c2] w (zN true w):=by
 have hle:=h1.len;generalize hn:L.length=n at hle⊢;have HN:=hid hn;clear hn;go_in;go_wp2;go_loopg [5] (n+1) (fun gk v5 W=>∃i:Nat,v5= .int .i64 i∧(i+gk=n+1∧i≤n)∧Hid (Fr [] w W));case atStart=>exact⟨0,rfl,by omega,hid (Fr.refl _ _)⟩
 case round=>
  obtain⟨i,rfl,hi,F3⟩:=hrel;by_cases hlt:i<n
  ·have b6':=dT (i<n)
   have hL:i<L.length:=by rw[HN.out];exact hlt
   obtain⟨g1,o1,x1,k1,rfl,hc1,hb1,_⟩:=(h1.fr0 F3.drew).at_ i hL;obtain⟨g2,o2,x2,k2,rfl,hc2,hb2,_⟩:=(h2.fr0 F3.drew).at_ i hL;have hgd:L[i]?=some L[i] :=List.getElem?_eq_getElem hL;rw[hgd]at hc1 hb1 hc2 hb2;simp only[Option.getD_some]at hc1 hb1 hc2 hb2;generalize L[i]'hL=x at*;have hs1:=za3 wr.drew x1 k1 x hb1;have hs2:=za3 wr.drew x2 k2 x hb2;generalize za0 x=S at*;generalize x.length=m at*;have i0:(0:Int)≤i:=by omega
   have i1:(i:Int)<n:=by omega
   have wi:=i6 ((i:Int)+1);clear hgd hL hb1 hb2;have F4:=F3.drew;have hY:=And.intro hc1 (And.intro hc2 (And.intro hs1 hs2));clear hc1 hc2 hs1 hs2;go_wp2_with fail;refine wp_region_held_drew (S:=fun W=>W.cell? ⟨g1,o1+i,none⟩=some (.slice x1 m k1)∧W.cell? ⟨g2,o2+i,none⟩=some (.slice x2 m k2)∧(convert 49 9 (.slice x1 m k1)).run prog W= .ok (.string S) W∧(convert 49 9 (.slice x2 m k2)).run prog W= .ok (.string S) W) (by kernel_rfl) (hY) (fun yH=> ?_);refine tkZ 0 ?_;refine tkZ 1 ?_;refine tkZ 2 ?_;refine tkZ 3 ?_;refine tkZ 4 ?_;refine tkZ 5 ?_;refine tkZ 6 ?_;refine tkZ 7 ?_;refine tkZ 8 ?_;refine tkZ 9 ?_;refine tkZ 10 ?_;refine wpAnyH_done (by kernel_rfl) ?_ _;go_wp2;go_roundg (gk-1);case measure=>omega
   case rel=>exact⟨i+1,by go_num,by omega,F4⟩
  ·obtain rfl:i=n:=by omega
   go_wp2;go_ret;exact⟨rfl,F3.out⟩
section
variable{w:World}{q:MH}{t:TM}
def ptV(m f:Nat):Value:= .agg #[some m,f]
theorem zrx(h:IsT w q t):Calls prog 81 #[q] w (zN true w):=by
 have hc:=zgy h;have ha:=h.ok.cfg.a1;have hq:=fun W=>zpn t.a t.s ha W;unfold cfgV at hc;clear h;generalize t.a=a at*;generalize t.s=s at*;go_in;go_wp2_with fail;go_call hc as e w1 ⟨rfl,f1⟩;clear hc;go_wp2;go_ret;exact⟨rfl,f1⟩
theorem zry(w:World)(m:Nat):Calls prog 166 #[some m] w (zN (ptV m 13) w):=by
 unfold ptV;go_in;go_wp2;go_returns;exact⟨rfl,(Fr.refl [] w).alloc _⟩
theorem zrz(w:World)(m:Nat):Calls prog 167 #[some m] w (zN (ptV m 14) w):=by
 unfold ptV;go_in;go_wp2;go_returns;exact⟨rfl,(Fr.refl [] w).alloc _⟩
theorem rpat(h:IsH w q t)(f:Nat)(hf:f<16):Calls prog 216 #[ptV q.m f] w (zR (t.rt f) fun w'=>IsH w' q t∧Fr q.blocks w w'):=by
 have hw:fldW f=4:=by unfold fldW;rw[if_neg (by omega)]
 have hlt:=h.ok.rt f;rw[hw]at hlt;have hw64:IntKind.i64.wrap (t.rt f:Int)=t.rt f:=i64_in _ (by have:(256:Nat)^4=4294967296:=rfl;omega);have HT:=hid (fun W (hW:IsH W q t)=>(show Calls prog 50 #[q,f] W (zR (.int .u64 (t.rt f)) fun w'=>IsT w' q t∧Fr q.blocks W w')from zgw hW.m f (by omega) f rfl));have H0:=h.alloc;have F0:=((Fr.refl [] w).alloc (.cells #[q,f] 151)).nil (S:=q.blocks);unfold ptV;clear h;generalize t.rt f=v at*;go_in;go_wp2_with fail;go_call HT.out _ (H0 _) as e w1 ⟨rfl,h1,f1⟩;have H1:=(H0 _).step h1 f1;have F1:=F0.trans f1;clear h1 f1;go_wp2;go_ret;exact⟨rfl,H1,F1⟩
theorem zr0(h:IsH w q t)(f:Nat)(hf:f<16)(x:Nat)(hx:x<4294967296):Calls prog 83 #[ptV q.m f,x] w (zR (.tuple #[]) fun w'=>IsH w' q (t.setRt f x)∧Fr q.blocks w w'):=by
 have hw:fldW f=4:=by unfold fldW;rw[if_neg (by omega)]
 have hw64:IntKind.u64.wrap (x:Int)=x:=IntWalk.u64_in _ (by omega);have HT:=hid (fun W (hW:IsH W q t)=>(show Calls prog 80 #[q,f,.int .u64 x] W (zR true fun w'=>IsT w' q (t.setRt f x)∧Fr q.blocks W w')from zgx hW.m f (by omega) x (by rw[hw];exact hx) f rfl x rfl));have H0:=h.alloc;have F0:=((Fr.refl [] w).alloc (.cells #[q,f] 151)).nil (S:=q.blocks);unfold ptV;clear h;go_in;go_wp2_with fail;go_call HT.out _ (H0 _) as e w1 ⟨rfl,h1,f1⟩;have H1:=(H0 _).step h1 f1;have F1:=F0.trans f1;clear h1 f1;go_wp2;go_end0;exact⟨rfl,H1,F1⟩
theorem rlen(h:IsH w q t):Calls prog 51 #[q] w (zR (.int .i64 (t.rt 15)) fun w'=>IsH w' q t∧Fr q.blocks w w'):=by
 have hlt:=h.ok.rt 15;have hw64:IntKind.i64.wrap (t.rt 15:Int)=t.rt 15:=i64_in _ (by have:(256:Nat)^fldW 15=4294967296:=rfl;omega);have HT:=(show Calls prog 50 #[q,(15:Int)] w (zR (.int .u64 (t.rt 15)) fun w'=>IsT w' q t∧Fr q.blocks w w')from zgw h.m 15 (by omega) 15 rfl);generalize t.rt 15=v at*;go_in;go_wp2_with fail;go_call HT as e w1 ⟨rfl,h1,f1⟩;have H1:=h.step h1 f1;clear h1 HT;go_wp2;go_ret;exact⟨rfl,H1,f1⟩
theorem zr1(h:IsH w q t){x tag:Nat}{N:Nat→Nat}(hh:HeadTo t x tag 5 N 12)(hN:N 0=tag)(h5:(wh tag 5).2=4):Calls prog 169 #[q,x] w (zR (.int .i64 (N 5)) fun w'=>IsH w' q t∧Fr q.blocks w w'):=by
 have hl:=zl2 h hh (.inl ⟨rfl,hN⟩) 5
 have e:hvN tag N 5=N 5:=by
  unfold hvN;have ht:=hh.tg;have:whZ tag 5=wh tag 5:=by unfold whZ;rw[if_pos (by omega),Int.toNat_natCast];rfl
  rw[this,if_neg (by omega)];rfl
 rw[e]at hl;have hlt:=hh.lt 5 (by decide) (by omega);rw[h5]at hlt;have hw64:IntKind.i64.wrap (N 5:Int)=N 5:=i64_in _ (by have:(256:Nat)^4=4294967296:=rfl;omega);clear h hh;generalize N 5=v at*;go_in;go_wp2_with fail;go_call hl as e w1 ⟨rfl,h1,f1⟩;clear hl;go_wp2;go_ret;exact⟨rfl,h1,f1⟩
theorem zr2(h:IsH w q t){x tag:Nat}{N:Nat→Nat}(hh:HeadTo t x tag 5 N 12)(hN:N 0=tag)(h6:(wh tag 6).2=4):Calls prog 172 #[q,x] w (zR (.int .i64 (N 6)) fun w'=>IsH w' q t∧Fr q.blocks w w'):=by
 have hl:=zl2 h hh (.inl ⟨rfl,hN⟩) 6
 have e:hvN tag N 6=N 6:=by
  unfold hvN;have ht:=hh.tg;have:whZ tag 6=wh tag 6:=by unfold whZ;rw[if_pos (by omega),Int.toNat_natCast];rfl
  rw[this,if_neg (by omega)];rfl
 rw[e]at hl;have hlt:=hh.lt 6 (by decide) (by omega);rw[h6]at hlt;have hw64:IntKind.i64.wrap (N 6:Int)=N 6:=i64_in _ (by have:(256:Nat)^4=4294967296:=rfl;omega);clear h hh;generalize N 6=v at*;go_in;go_wp2_with fail;go_call hl as e w1 ⟨rfl,h1,f1⟩;clear hl;go_wp2;go_ret;exact⟨rfl,h1,f1⟩
theorem zr3(tag:Nat)(ht:tag≤2):whZ tag 5=wh tag 5:=by unfold whZ;rw[if_pos (by omega),Int.toNat_natCast];rfl
theorem zr4(tag:Nat)(ht:tag≤2):whZ tag 6=wh tag 6:=by unfold whZ;rw[if_pos (by omega),Int.toNat_natCast];rfl
theorem wh1:wh 1 5=(8,4)∧wh 1 6=(12,4):=by decide
def TM.nxt(t:TM)(x v:Nat):TM:=t.setB (x+8) 4 v
def TM.prv(t:TM)(x v:Nat):TM:=t.setB (x+12) 4 v
theorem zr5(t:TM)(x v:Nat)(hv:v<4294967296):t.hst x 1 5 v=t.nxt x v:=by
 unfold TM.hst hstB;rw[zr3 1 (by decide),wh1.1,if_pos (by simpa using hv)];rfl
theorem zr6(t:TM)(x v:Nat)(hv:v<4294967296):t.hst x 1 6 v=t.prv x v:=by
 unfold TM.hst hstB;rw[zr4 1 (by decide),wh1.2,if_pos (by simpa using hv)];rfl
theorem HeadTo.nxt{x:Nat}{N:Nat→Nat}(hh:HeadTo t x 1 5 N 12)(hok:t.Ok)(v:Nat)(hv:v<4294967296):HeadTo (t.nxt x v) x 1 5 (up N 5 v) 12∧(t.nxt x v).Ok:=by
 have:=hh.hst hok 5 v;rw[zr5 t x v hv]at this;have hb:hstB 1 5 v=true:=by unfold hstB;rw[zr3 1 (by decide),wh1.1];simpa using hv
 rw[hb,if_pos rfl]at this;exact this
theorem HeadTo.prv{x:Nat}{N:Nat→Nat}(hh:HeadTo t x 1 5 N 12)(hok:t.Ok)(v:Nat)(hv:v<4294967296):HeadTo (t.prv x v) x 1 5 (up N 6 v) 12∧(t.prv x v).Ok:=by
 have:=hh.hst hok 6 v;rw[zr6 t x v hv]at this;have hb:hstB 1 6 v=true:=by unfold hstB;rw[zr4 1 (by decide),wh1.2];simpa using hv
 rw[hb,if_pos rfl]at this;exact this
theorem hstN(h:IsH w q t){x:Nat}{N:Nat→Nat}(hh:HeadTo t x 1 5 N 12)(hN:N 0=1)(v:Nat)(hv:v<4294967296):Calls prog 231 #[q,x,(5:Int),.int .u64 v] w (zR true fun w'=>IsH w' q (t.nxt x v)∧Fr q.blocks w w'):=by
 have:=zl4 h hh (.inl ⟨rfl,hN⟩) 5 v (by omega);rw[zr5 t x v hv,show hstB 1 5 v=true from by unfold hstB;rw[zr3 1 (by decide),wh1.1];simpa using hv]at this;exact this
theorem hstP(h:IsH w q t){x:Nat}{N:Nat→Nat}(hh:HeadTo t x 1 5 N 12)(hN:N 0=1)(v:Nat)(hv:v<4294967296):Calls prog 231 #[q,x,(6:Int),.int .u64 v] w (zR true fun w'=>IsH w' q (t.prv x v)∧Fr q.blocks w w'):=by
 have:=zl4 h hh (.inl ⟨rfl,hN⟩) 6 v (by omega);rw[zr6 t x v hv,show hstB 1 6 v=true from by unfold hstB;rw[zr4 1 (by decide),wh1.2];simpa using hv]at this;exact this
theorem zr7(h:IsH w q t){a b:Nat}{N M:Nat→Nat}(ha:HeadTo t a 1 5 N 12)(hN:N 0=1)(hb:HeadTo (t.nxt a b) b 1 5 M 12)(hM:M 0=1)(ha4:a<4294967296)(hb4:b<4294967296):Calls prog 171 #[q,a,b] w (zR (.tuple #[]) fun w'=>IsH w' q ((t.nxt a b).prv b a)∧Fr q.blocks w w'):=by
 have h1:=hstN h ha hN b hb4;have H2:=hid (fun W (hW:IsH W q (t.nxt a b))=>hstP hW hb hM a ha4);have e1:IntKind.u64.wrap (b:Int)=b:=IntWalk.u64_in _ (by omega);have e2:IntKind.u64.wrap (a:Int)=a:=IntWalk.u64_in _ (by omega);clear h ha hb;go_in;go_wp2_with fail;go_call h1 as e w1 ⟨rfl,k1,f1⟩;clear h1;go_wp2_with fail;go_call H2.out _ k1 as e w2 ⟨rfl,k2,f2⟩;have F2:=f1.trans f2;clear f2;go_wp2;go_end0;exact⟨rfl,k2,F2⟩
theorem zr8(h:IsH w q t){a:Nat}{N:Nat→Nat}(ha:HeadTo t a 1 5 N 12)(hN:N 0=1):Calls prog 173 #[q,a] w (zR (.tuple #[]) fun w'=>IsH w' q ((t.nxt a 0).prv a 0)∧Fr q.blocks w w'):=by
 have h1:=(show Calls prog 231 #[q,a,(5:Int),.int .u64 0] w (zR true fun w'=>IsH w' q (t.nxt a 0)∧Fr q.blocks w w')from hstN h ha hN 0 (by decide));have H2:=hid (fun W (hW:IsH W q (t.nxt a 0))=>(show Calls prog 231 #[q,a,(6:Int),.int .u64 0] W (zR true fun w'=>IsH w' q ((t.nxt a 0).prv a 0)∧Fr q.blocks W w')from hstP hW (ha.nxt h.ok 0 (by decide)).1 (by rw[zf2 _ _ (by decide)];exact hN) 0 (by decide)));clear h ha;go_in;go_wp2_with fail;go_call h1 as e w1 ⟨rfl,k1,f1⟩;clear h1;go_wp2_with fail;go_call H2.out _ k1 as e w2 ⟨rfl,k2,f2⟩;have F2:=f1.trans f2;clear f2;go_wp2;go_end0;exact⟨rfl,k2,F2⟩
theorem zr9(h:IsH w q t)(d:Int)(n:Nat)(hn:(t.rt 15:Int)+d=n)(hd: -1≤d∧d≤1)(hn4:n<4294967296):Calls prog 174 #[q,d] w (zR (.tuple #[]) fun w'=>IsH w' q (t.setRt 15 n)∧Fr q.blocks w w'):=by
 have h1:=rlen h;have hlt:=h.ok.rt 15;have e1:IntKind.i64.wrap ((t.rt 15:Int)+d)=n:=by rw[hn];exact i6 _
 have e2:IntKind.u64.wrap (n:Int)=n:=IntWalk.u64_in _ (by omega);have H2:=hid (fun W (hW:IsH W q t)=>(show Calls prog 80 #[q,(15:Int),.int .u64 n] W (zR true fun w'=>IsT w' q (t.setRt 15 n)∧Fr q.blocks W w')from zgx hW.m 15 (by omega) n (show n<256^4 by have:(256:Nat)^4=4294967296:=rfl;omega) 15 rfl n rfl));clear h hn hlt;generalize t.rt 15=v at*;go_in;go_wp2_with fail;go_call h1 as e w1 ⟨rfl,k1,f1⟩;clear h1;go_wp2_with fail;go_call H2.out _ k1 as e w2 ⟨rfl,k2,f2⟩;have K2:=k1.step k2 f2;have F2:=f1.trans f2;clear k2 f2;go_wp2;go_end0;exact⟨rfl,K2,F2⟩
end
section
variable{w:World}{q:MH}{t:TM}
theorem zsa(X:HB)(v:Nat):({X with next:=v}:HB).num=up X.num 5 v:=by
 funext f;unfold up;by_cases h:f=5
 ·subst h;rfl
 ·rw[if_neg h]
  show({X with next:=v}:HB).nums[f]?.getD 0=X.nums[f]?.getD 0;unfold HB.nums;rcases f with _|_|_|_|_|_|f;all_goals first|rfl|(exact absurd rfl h)
theorem zsb(X:HB)(v:Nat):({X with prev:=v}:HB).num=up X.num 6 v:=by
 funext f;unfold up;by_cases h:f=6
 ·subst h;rfl
 ·rw[if_neg h]
  show({X with prev:=v}:HB).nums[f]?.getD 0=X.nums[f]?.getD 0;unfold HB.nums;rcases f with _|_|_|_|_|_|_|f;all_goals first|rfl|(exact absurd rfl h)
structure EntH(t:TM)(x:Nat)(X:HB):Prop where
 h:HeadTo t x 1 5 X.num 12
 ok:X.Ok
 r:X.right=true
 tag:X.tag=1
theorem EntH.n0{x:Nat}{X:HB}(h:EntH t x X):X.num 0=1:=by
 show X.nums[0]?.getD 0=1;unfold HB.nums;rw[h.tag];rfl
theorem zsc(h:IsH w q t){x:Nat}{X:HB}(hx:EntH t x X):Calls prog 168 #[q,x] w (zR (0:Int) fun w'=>IsH w' q t∧Fr q.blocks w w'):=by
 have hm:=zrx h.m
 have HG:=hid (fun W (hW:IsH W q t)=>(show Calls prog 138 #[q,x] W (zR (.tuple #[.agg #[(1:Int),X.cls,X.used,X.label,.int .u32 X.name,.int .u32 X.next,.int .u32 X.prev,.int .u32 X.refs,.int .u64 X.expiry,.int .u16 X.typ,X.size,.int .u32 X.hash],(0:Int)]) fun w'=>IsH w' q t∧Fr q.blocks W w')from by
  have:=hget W q t hW x 1 5 X hx.h hx.ok hx.r hx.tag (.inl ⟨rfl,hx.n0⟩) (.inl rfl);unfold GetP HB.val HB.cells at this;rw[hx.tag]at this;exact this))
 clear hx;go_in;go_wp2_with fail;go_call hm as e w1 ⟨rfl,f1⟩;have H1:=h.fr0 f1;have F1:=f1.nil (S:=q.blocks);clear hm f1;go_wp2_with fail;go_call HG.out _ H1 as e w2 ⟨rfl,h2,f2⟩;have F2:=F1.trans f2;clear f2;go_wp2;go_ret;exact⟨rfl,h2.fr0 ((Fr.refl [] w2).alloc _),F2.alloc _⟩
end
section
variable{w:World}{q:MH}{t:TM}
def zsd(m:Nat):Array Value:= #[.pointer (some ⟨m,0,none⟩),.int .i64 13,.pointer (some ⟨m,0,none⟩),.int .i64 14]
theorem zse(w:World)(m:Nat):Calls prog 82 #[some m] w fun e w'=>∃b,e= .returned (.slice (some ⟨b,0,none⟩) 2 2)∧Blk w' b 151 (zsd m)∧w.heap.size≤b∧Fr [] w w':=by
 have HH:=hid (fun W=>zry W m);have HB:=hid (fun W=>zrz W m);unfold ptV at HH HB;unfold zsd;go_in;go_wp2_with fail;go_call HH.out _ as e w1 ⟨rfl,f1⟩;go_wp2_with fail;go_call HB.out _ as e w2 ⟨rfl,f2⟩;go_wp2;go_ret;exact⟨_,rfl,Blk.new _ _ _,Nat.le_trans f1.size f2.size,(f1.trans f2).alloc _⟩
theorem zsf(h:IsH w q t):Calls prog 24 #[q] w (zR (0:Int) fun w'=>IsH w' q (((t.setRt 13 0).setRt 14 0).setRt 15 0)∧Fr q.blocks w w'):=by
 have hm:=zrx h.m;have HB:=hid (fun W=>zse W q.m);unfold zsd at HB;have HP:=hid (fun W (u:TM) (hW:IsH W q u)=>And.intro (show Calls prog 83 #[.agg #[q,(13:Int)],(0:Int)] W (zR (.tuple #[]) fun w'=>IsH w' q (u.setRt 13 0)∧Fr q.blocks W w')from zr0 hW 13 (by decide) 0 (by decide)) (show Calls prog 83 #[.agg #[q,(14:Int)],(0:Int)] W (zR (.tuple #[]) fun w'=>IsH w' q (u.setRt 14 0)∧Fr q.blocks W w')from zr0 hW 14 (by decide) 0 (by decide)));go_in;go_wp2_with fail;go_call hm as e w1 ⟨rfl,f1⟩;have H1:=h.fr0 f1;have F1:=f1.nil (S:=q.blocks);clear hm f1;go_wp2_with fail;go_call HB.out _ as e w2 ⟨b,rfl,hb,hsz,f2⟩;have H2:=H1.fr0 f2;have F2:=F1.trans (f2.nil (S:=q.blocks));have hnb:b∉q.blocks:=fun hk=>Nat.lt_irrefl _ (Nat.lt_of_lt_of_le (H1.m.lt b hk) hsz);have hb2:=hb.alloc (.cells #[q,(13:Int)] 151);have H3:=H2.alloc;have F3:=F2.alloc;clear f2;have hc0:=hb.cell 0;have hc1:=hb.cell 1;have hc2:=hb.cell 2;have hc3:=hb.cell 3;simp at hc0 hc1 hc2 hc3;go_wp2_with fail;refine wp_loop_rounds 3 ?_;rw[rounds_succ];go_wp2_with fail;go_call (HP.out _ _ (H3 _)).1 as e w4 ⟨rfl,h4,f4⟩;have hb4:=hb2.fr f4 hnb;have H4:=h4.alloc;have F4:=((F3 _).trans f4).alloc;clear hc0 hc1 hc2 hc3 f4 hb2 h4 hb;have hc0:=hb4.cell 0;have hc1:=hb4.cell 1;have hc2:=hb4.cell 2;have hc3:=hb4.cell 3;simp at hc0 hc1 hc2 hc3;go_wp2_with fail;rw[rounds_succ];go_wp2_with fail;go_call (HP.out _ _ (H4 _)).2 as e w5 ⟨rfl,h5,f5⟩;have F5:=(F4 _).trans f5;clear hc0 hc1 hc2 hc3 f5 hb4;go_wp2_with fail;rw[rounds_succ];go_wp2_with fail;go_call (show Calls prog 80 #[q,(15:Int),.int .u64 0] w5 (zR true fun w'=>IsT w' q (((t.setRt 13 0).setRt 14 0).setRt 15 0)∧Fr q.blocks w5 w')from zgx h5.m 15 (by decide) 0 (by decide) 15 rfl 0 rfl) as e w6 ⟨rfl,h6,f6⟩;have H6:=h5.step h6 f6;have F6:=F5.trans f6;clear h6 f6;go_wp2;go_ret;exact⟨rfl,H6,F6⟩
end
section
variable{w:World}{q:MH}{t:TM}
theorem zsg(h:IsH w q t)(fr to:Nat)(hfr:fr<4294967296)(hto:to<4294967296)(e1:t.rt 13=fr)(e2:t.rt 14=fr):Calls prog 170 #[q,fr,to] w (zR (.tuple #[]) fun w'=>IsH w' q ((t.setRt 13 to).setRt 14 to)∧Fr q.blocks w w'):=by
 have HB:=hid (fun W=>zse W q.m);unfold zsd at HB
 have HA13:=hid (fun W (hW:IsH W q t)=>(show Calls prog 216 #[.agg #[q,(13:Int)]] W (zR (fr:Nat) fun w'=>IsH w' q t∧Fr q.blocks W w')from by
  have:=rpat hW 13 (by decide);rw[show(t).rt 13=fr from e1]at this;exact this))
 have HP13:=hid (fun W (hW:IsH W q t)=>(show Calls prog 83 #[.agg #[q,(13:Int)],to] W (zR (.tuple #[]) fun w'=>IsH w' q (t.setRt 13 to)∧Fr q.blocks W w')from zr0 hW 13 (by decide) to hto))
 have HA14:=hid (fun W (hW:IsH W q (t.setRt 13 to))=>(show Calls prog 216 #[.agg #[q,(14:Int)]] W (zR (fr:Nat) fun w'=>IsH w' q (t.setRt 13 to)∧Fr q.blocks W w')from by
  have:=rpat hW 14 (by decide);rw[show((t.setRt 13 to)).rt 14=fr from e2]at this;exact this))
 have HP14:=hid (fun W (hW:IsH W q (t.setRt 13 to))=>(show Calls prog 83 #[.agg #[q,(14:Int)],to] W (zR (.tuple #[]) fun w'=>IsH w' q ((t.setRt 13 to).setRt 14 to)∧Fr q.blocks W w')from zr0 hW 14 (by decide) to hto));clear e1 e2;go_in;go_wp2_with fail;go_call HB.out _ as e w2 ⟨b,rfl,hb,hsz,f2⟩;have H2:=h.fr0 f2;have F2:=f2.nil (S:=q.blocks);have hnb:b∉q.blocks:=fun hk=>Nat.lt_irrefl _ (Nat.lt_of_lt_of_le (h.m.lt b hk) hsz);have pv1:=Blk.new w2 151 #[.pointer (some ⟨q.m,0,none⟩),.int .i64 13];have pn1:w2.heap.size∉q.blocks:=fun hk=>Nat.lt_irrefl _ (H2.m.lt _ hk);have A1:=H2.alloc;have B1:=F2.alloc;have C1:=hb.alloc (.cells #[q,(13:Int)] 151);have hc0:=hb.cell 0;have hc1:=hb.cell 1;have hc2:=hb.cell 2;have hc3:=hb.cell 3;simp at hc0 hc1 hc2 hc3;go_wp2_with fail;refine wp_loop_rounds 3 ?_;rw[rounds_succ];go_wp2_with fail;go_call HA13.out _ (A1 _) as e x1 ⟨rfl,h4,f4⟩;have hb1:=C1.fr f4 hnb;have p0:=pv1.fr f4 pn1;have p1:=p0.cell 0;have p2:=p0.cell 1;simp at p1 p2;have L1:=(B1 _).trans f4;clear f4 hc0 hc1 hc2 hc3 pv1 C1;go_wp2_with fail;go_call HP13.out _ h4 as e y1 ⟨rfl,h5,f5⟩;have hb1':=hb1.fr f5 hnb;have N1:=L1.trans f5;clear f5 p0 p1 p2 hb1;go_wp2;have pv2:=Blk.new y1 151 #[.pointer (some ⟨q.m,0,none⟩),.int .i64 14];have pn2:y1.heap.size∉q.blocks:=fun hk=>Nat.lt_irrefl _ (h5.m.lt _ hk);have A2:=h5.alloc;have B2:=N1.alloc;have C2:=hb1'.alloc (.cells #[q,(14:Int)] 151);have hc0:=hb1'.cell 0;have hc1:=hb1'.cell 1;have hc2:=hb1'.cell 2;have hc3:=hb1'.cell 3;simp at hc0 hc1 hc2 hc3;rw[rounds_succ];go_wp2_with fail;go_call HA14.out _ (A2 _) as e x2 ⟨rfl,h4,f4⟩;have hb2:=C2.fr f4 hnb;have p0:=pv2.fr f4 pn2;have p1:=p0.cell 0;have p2:=p0.cell 1;simp at p1 p2;have L2:=(B2 _).trans f4;clear f4 hc0 hc1 hc2 hc3 pv2 C2;go_wp2_with fail;go_call HP14.out _ h4 as e y2 ⟨rfl,h5,f5⟩;have N2:=L2.trans f5;clear f5 p0 p1 p2 hb2;go_wp2_with fail;rw[rounds_succ];go_wp2;go_end0;exact⟨rfl,h5,N2⟩
theorem zsh(h:IsH w q t)(fr to:Nat)(hfr:fr<4294967296)(hto:to<4294967296)(e1:t.rt 13=fr)(e2:t.rt 14≠fr):Calls prog 170 #[q,fr,to] w (zR (.tuple #[]) fun w'=>IsH w' q (t.setRt 13 to)∧Fr q.blocks w w'):=by
 have HB:=hid (fun W=>zse W q.m);unfold zsd at HB
 have HA13:=hid (fun W (hW:IsH W q t)=>(show Calls prog 216 #[.agg #[q,(13:Int)]] W (zR (fr:Nat) fun w'=>IsH w' q t∧Fr q.blocks W w')from by
  have:=rpat hW 13 (by decide);rw[show(t).rt 13=fr from e1]at this;exact this))
 have HP13:=hid (fun W (hW:IsH W q t)=>(show Calls prog 83 #[.agg #[q,(13:Int)],to] W (zR (.tuple #[]) fun w'=>IsH w' q (t.setRt 13 to)∧Fr q.blocks W w')from zr0 hW 13 (by decide) to hto));obtain⟨v14,hv14⟩:∃v:Nat,v=t.rt 14:=⟨_,rfl⟩;have hw14:¬((v14:Int)=fr):=by omega
 have HA14:=hid (fun W (hW:IsH W q (t.setRt 13 to))=>(show Calls prog 216 #[.agg #[q,(14:Int)]] W (zR (v14:Nat) fun w'=>IsH w' q (t.setRt 13 to)∧Fr q.blocks W w')from by
  have:=rpat hW 14 (by decide);rw[show((t.setRt 13 to)).rt 14=v14 from hv14.symm]at this;exact this))
 clear e1 e2;go_in;go_wp2_with fail;go_call HB.out _ as e w2 ⟨b,rfl,hb,hsz,f2⟩;have H2:=h.fr0 f2;have F2:=f2.nil (S:=q.blocks);have hnb:b∉q.blocks:=fun hk=>Nat.lt_irrefl _ (Nat.lt_of_lt_of_le (h.m.lt b hk) hsz);have pv1:=Blk.new w2 151 #[.pointer (some ⟨q.m,0,none⟩),.int .i64 13];have pn1:w2.heap.size∉q.blocks:=fun hk=>Nat.lt_irrefl _ (H2.m.lt _ hk);have A1:=H2.alloc;have B1:=F2.alloc;have C1:=hb.alloc (.cells #[q,(13:Int)] 151);have hc0:=hb.cell 0;have hc1:=hb.cell 1;have hc2:=hb.cell 2;have hc3:=hb.cell 3;simp at hc0 hc1 hc2 hc3;go_wp2_with fail;refine wp_loop_rounds 3 ?_;rw[rounds_succ];go_wp2_with fail;go_call HA13.out _ (A1 _) as e x1 ⟨rfl,h4,f4⟩;have hb1:=C1.fr f4 hnb;have p0:=pv1.fr f4 pn1;have p1:=p0.cell 0;have p2:=p0.cell 1;simp at p1 p2;have L1:=(B1 _).trans f4;clear f4 hc0 hc1 hc2 hc3 pv1 C1;go_wp2_with fail;go_call HP13.out _ h4 as e y1 ⟨rfl,h5,f5⟩;have hb1':=hb1.fr f5 hnb;have N1:=L1.trans f5;clear f5 p0 p1 p2 hb1;go_wp2;have pv2:=Blk.new y1 151 #[.pointer (some ⟨q.m,0,none⟩),.int .i64 14];have pn2:y1.heap.size∉q.blocks:=fun hk=>Nat.lt_irrefl _ (h5.m.lt _ hk);have A2:=h5.alloc;have B2:=N1.alloc;have C2:=hb1'.alloc (.cells #[q,(14:Int)] 151);have hc0:=hb1'.cell 0;have hc1:=hb1'.cell 1;have hc2:=hb1'.cell 2;have hc3:=hb1'.cell 3;simp at hc0 hc1 hc2 hc3;rw[rounds_succ];go_wp2_with fail;go_call HA14.out _ (A2 _) as e x2 ⟨rfl,h4,f4⟩;have p0:=pv2.fr f4 pn2;have p1:=p0.cell 0;have p2:=p0.cell 1;simp at p1 p2;have L2:=(B2 _).trans f4;clear f4 hc0 hc1 hc2 hc3 pv2 C2;go_wp2_with fail;clear p0 p1 p2;rw[rounds_succ];go_wp2;go_end0;exact⟨rfl,h4,L2⟩
theorem zsi(h:IsH w q t)(fr to:Nat)(hfr:fr<4294967296)(hto:to<4294967296)(e1:t.rt 13≠fr)(e2:t.rt 14=fr):Calls prog 170 #[q,fr,to] w (zR (.tuple #[]) fun w'=>IsH w' q (t.setRt 14 to)∧Fr q.blocks w w'):=by
 have HB:=hid (fun W=>zse W q.m);unfold zsd at HB;obtain⟨v13,hv13⟩:∃v:Nat,v=t.rt 13:=⟨_,rfl⟩;have hw13:¬((v13:Int)=fr):=by omega
 have HA13:=hid (fun W (hW:IsH W q t)=>(show Calls prog 216 #[.agg #[q,(13:Int)]] W (zR (v13:Nat) fun w'=>IsH w' q t∧Fr q.blocks W w')from by
  have:=rpat hW 13 (by decide);rw[show(t).rt 13=v13 from hv13.symm]at this;exact this))
 have HA14:=hid (fun W (hW:IsH W q t)=>(show Calls prog 216 #[.agg #[q,(14:Int)]] W (zR (fr:Nat) fun w'=>IsH w' q t∧Fr q.blocks W w')from by
  have:=rpat hW 14 (by decide);rw[show(t).rt 14=fr from e2]at this;exact this))
 have HP14:=hid (fun W (hW:IsH W q t)=>(show Calls prog 83 #[.agg #[q,(14:Int)],to] W (zR (.tuple #[]) fun w'=>IsH w' q (t.setRt 14 to)∧Fr q.blocks W w')from zr0 hW 14 (by decide) to hto));clear e1 e2;go_in;go_wp2_with fail;go_call HB.out _ as e w2 ⟨b,rfl,hb,hsz,f2⟩;have H2:=h.fr0 f2;have F2:=f2.nil (S:=q.blocks);have hnb:b∉q.blocks:=fun hk=>Nat.lt_irrefl _ (Nat.lt_of_lt_of_le (h.m.lt b hk) hsz);have pv1:=Blk.new w2 151 #[.pointer (some ⟨q.m,0,none⟩),.int .i64 13];have pn1:w2.heap.size∉q.blocks:=fun hk=>Nat.lt_irrefl _ (H2.m.lt _ hk);have A1:=H2.alloc;have B1:=F2.alloc;have C1:=hb.alloc (.cells #[q,(13:Int)] 151);have hc0:=hb.cell 0;have hc1:=hb.cell 1;have hc2:=hb.cell 2;have hc3:=hb.cell 3;simp at hc0 hc1 hc2 hc3;go_wp2_with fail;refine wp_loop_rounds 3 ?_;rw[rounds_succ];go_wp2_with fail;go_call HA13.out _ (A1 _) as e x1 ⟨rfl,h4,f4⟩;have hb1:=C1.fr f4 hnb;have p0:=pv1.fr f4 pn1;have p1:=p0.cell 0;have p2:=p0.cell 1;simp at p1 p2;have L1:=(B1 _).trans f4;clear f4 hc0 hc1 hc2 hc3 pv1 C1;go_wp2;clear p0 p1 p2;have pv2:=Blk.new x1 151 #[.pointer (some ⟨q.m,0,none⟩),.int .i64 14];have pn2:x1.heap.size∉q.blocks:=fun hk=>Nat.lt_irrefl _ (h4.m.lt _ hk);have A2:=h4.alloc;have B2:=L1.alloc;have C2:=hb1.alloc (.cells #[q,(14:Int)] 151);have hc0:=hb1.cell 0;have hc1:=hb1.cell 1;have hc2:=hb1.cell 2;have hc3:=hb1.cell 3;simp at hc0 hc1 hc2 hc3;rw[rounds_succ];go_wp2_with fail;go_call HA14.out _ (A2 _) as e x2 ⟨rfl,h4,f4⟩;have hb2:=C2.fr f4 hnb;have p0:=pv2.fr f4 pn2;have p1:=p0.cell 0;have p2:=p0.cell 1;simp at p1 p2;have L2:=(B2 _).trans f4;clear f4 hc0 hc1 hc2 hc3 pv2 C2;go_wp2_with fail;go_call HP14.out _ h4 as e y2 ⟨rfl,h5,f5⟩;have N2:=L2.trans f5;clear f5 p0 p1 p2 hb2;go_wp2_with fail;rw[rounds_succ];go_wp2;go_end0;exact⟨rfl,h5,N2⟩
theorem zsj(h:IsH w q t)(fr to:Nat)(hfr:fr<4294967296)(hto:to<4294967296)(e1:t.rt 13≠fr)(e2:t.rt 14≠fr):Calls prog 170 #[q,fr,to] w (zR (.tuple #[]) fun w'=>IsH w' q t∧Fr q.blocks w w'):=by
 have HB:=hid (fun W=>zse W q.m);unfold zsd at HB;obtain⟨v13,hv13⟩:∃v:Nat,v=t.rt 13:=⟨_,rfl⟩;have hw13:¬((v13:Int)=fr):=by omega
 have HA13:=hid (fun W (hW:IsH W q t)=>(show Calls prog 216 #[.agg #[q,(13:Int)]] W (zR (v13:Nat) fun w'=>IsH w' q t∧Fr q.blocks W w')from by
  have:=rpat hW 13 (by decide);rw[show(t).rt 13=v13 from hv13.symm]at this;exact this))
 obtain⟨v14,hv14⟩:∃v:Nat,v=t.rt 14:=⟨_,rfl⟩;have hw14:¬((v14:Int)=fr):=by omega
 have HA14:=hid (fun W (hW:IsH W q t)=>(show Calls prog 216 #[.agg #[q,(14:Int)]] W (zR (v14:Nat) fun w'=>IsH w' q t∧Fr q.blocks W w')from by
  have:=rpat hW 14 (by decide);rw[show(t).rt 14=v14 from hv14.symm]at this;exact this))
 clear e1 e2;go_in;go_wp2_with fail;go_call HB.out _ as e w2 ⟨b,rfl,hb,hsz,f2⟩;have H2:=h.fr0 f2;have F2:=f2.nil (S:=q.blocks);have hnb:b∉q.blocks:=fun hk=>Nat.lt_irrefl _ (Nat.lt_of_lt_of_le (h.m.lt b hk) hsz);have pv1:=Blk.new w2 151 #[.pointer (some ⟨q.m,0,none⟩),.int .i64 13];have pn1:w2.heap.size∉q.blocks:=fun hk=>Nat.lt_irrefl _ (H2.m.lt _ hk);have A1:=H2.alloc;have B1:=F2.alloc;have C1:=hb.alloc (.cells #[q,(13:Int)] 151);have hc0:=hb.cell 0;have hc1:=hb.cell 1;have hc2:=hb.cell 2;have hc3:=hb.cell 3;simp at hc0 hc1 hc2 hc3;go_wp2_with fail;refine wp_loop_rounds 3 ?_;rw[rounds_succ];go_wp2_with fail;go_call HA13.out _ (A1 _) as e x1 ⟨rfl,h4,f4⟩;have hb1:=C1.fr f4 hnb;have p0:=pv1.fr f4 pn1;have p1:=p0.cell 0;have p2:=p0.cell 1;simp at p1 p2;have L1:=(B1 _).trans f4;clear f4 hc0 hc1 hc2 hc3 pv1 C1;go_wp2;clear p0 p1 p2;have pv2:=Blk.new x1 151 #[.pointer (some ⟨q.m,0,none⟩),.int .i64 14];have pn2:x1.heap.size∉q.blocks:=fun hk=>Nat.lt_irrefl _ (h4.m.lt _ hk);have A2:=h4.alloc;have B2:=L1.alloc;have C2:=hb1.alloc (.cells #[q,(14:Int)] 151);have hc0:=hb1.cell 0;have hc1:=hb1.cell 1;have hc2:=hb1.cell 2;have hc3:=hb1.cell 3;simp at hc0 hc1 hc2 hc3;rw[rounds_succ];go_wp2_with fail;go_call HA14.out _ (A2 _) as e x2 ⟨rfl,h4,f4⟩;have p0:=pv2.fr f4 pn2;have p1:=p0.cell 0;have p2:=p0.cell 1;simp at p1 p2;have L2:=(B2 _).trans f4;clear f4 hc0 hc1 hc2 hc3 pv2 C2;go_wp2_with fail;clear p0 p1 p2;rw[rounds_succ];go_wp2;go_end0;exact⟨rfl,h4,L2⟩
def TM.rnm(t:TM)(fr to:Nat):TM:=if t.rt 14=fr then(if t.rt 13=fr then t.setRt 13 to else t).setRt 14 to else(if t.rt 13=fr then t.setRt 13 to else t)
theorem rren(h:IsH w q t)(fr to:Nat)(hfr:fr<4294967296)(hto:to<4294967296):Calls prog 170 #[q,fr,to] w (zR (.tuple #[]) fun w'=>IsH w' q (t.rnm fr to)∧Fr q.blocks w w'):=by
 unfold TM.rnm;by_cases e1:t.rt 13=fr
 ·by_cases e2:t.rt 14=fr
  ·rw[if_pos e1,if_pos e2];exact zsg h fr to hfr hto e1 e2
  ·rw[if_pos e1,if_neg e2];exact zsh h fr to hfr hto e1 e2
 ·by_cases e2:t.rt 14=fr
  ·rw[if_neg e1,if_pos e2];exact zsi h fr to hfr hto e1 e2
  ·rw[if_neg e1,if_neg e2];exact zsj h fr to hfr hto e1 e2
end
section
variable{t u:TM}
theorem HeadTo.out{x tag kind:Nat}{N:Nat→Nat}{m y n:Nat}(h:HeadTo t x tag kind N m)(ha:u.a=t.a)(hs:u.s=t.s)(o:Out t u y n)(hd:x+32≤y∨y+n≤x)(hm:m≤12):HeadTo u x tag kind N m:=by
 have z:=zlt tag h.tg;have al:=h.al;have hb:=h.base;refine⟨h.tg,by rw[ha,hs];exact h.base,h.al,by rw[ha,hs];exact h.fit,h.k0,fun g g1 g2=> ?_,fun f hf h0 j hj=> ?_,h.lt⟩
 ·rw[o.kd_ g (by omega) (by omega)];exact h.kinds g g1 g2
 ·have wk:=zlu tag f h.tg (by omega) h0
  rw[o.by_ _ (by omega) (by omega)];exact h.byte f hf h0 j hj
theorem zsk(X:HB)(ht:X.tag=1)(v:Nat):({X with next:=v}:HB).right=X.right:=by
 unfold HB.right;have hw:((whZ X.tag 5).2==0)=false:=by rw[ht];rfl
 have hw':((whZ X.tag (5:Nat)).2==0)=false:=hw
 have:({X with next:=v}:HB).lackTo 12=X.lackTo 12:=by
  simp only[HB.lackTo];unfold HB.lackAt;rw[zsa];simp only[up,hw',Bool.and_false];simp[hw]
 rw[this]
theorem zsl(X:HB)(ht:X.tag=1)(v:Nat):({X with prev:=v}:HB).right=X.right:=by
 unfold HB.right;have hw:((whZ X.tag 6).2==0)=false:=by rw[ht];rfl
 have hw':((whZ X.tag (6:Nat)).2==0)=false:=hw
 have:({X with prev:=v}:HB).lackTo 12=X.lackTo 12:=by
  simp only[HB.lackTo];unfold HB.lackAt;rw[zsb];simp only[up,hw',Bool.and_false];simp[hw]
 rw[this]
theorem EntH.nxt{x:Nat}{X:HB}(h:EntH t x X)(hok:t.Ok)(v:Nat)(hv:v<4294967296):EntH (t.nxt x v) x {X with next:=v}:=
 ⟨by rw[zsa];exact(h.h.nxt hok v hv).1,⟨h.ok.tag,h.ok.cls,h.ok.label,h.ok.name,hv,h.ok.prev,h.ok.refs,h.ok.expiry,h.ok.typ,h.ok.size,h.ok.hash⟩,by rw[zsk X h.tag];exact h.r,h.tag⟩
theorem EntH.prv{x:Nat}{X:HB}(h:EntH t x X)(hok:t.Ok)(v:Nat)(hv:v<4294967296):EntH (t.prv x v) x {X with prev:=v}:=
 ⟨by rw[zsb];exact(h.h.prv hok v hv).1,⟨h.ok.tag,h.ok.cls,h.ok.label,h.ok.name,h.ok.next,hv,h.ok.refs,h.ok.expiry,h.ok.typ,h.ok.size,h.ok.hash⟩,by rw[zsl X h.tag];exact h.r,h.tag⟩
theorem EntH.out{x:Nat}{X:HB}{y n:Nat}(h:EntH t x X)(ha:u.a=t.a)(hs:u.s=t.s)(o:Out t u y n)(hd:x+32≤y∨y+n≤x):EntH u x X:=
 ⟨h.h.out ha hs o hd (Nat.le_refl _),h.ok,h.r,h.tag⟩
theorem EntH.lt{x:Nat}{X:HB}(h:EntH t x X)(hok:t.Ok):x<1048576∧240≤x:=by
 have hc:=zge hok.cfg;have hb:=h.h.base;have hf:=h.h.fit;have z:=zlt 1 (by decide);have:=zmd hok 0 (by have:=hok.cfg.a1;omega);omega
structure Ents(t:TM)(L:Nat→Prop)(E:Nat→HB):Prop where
 ok:t.Ok
 e: ∀x,L x→EntH t x (E x)
 ap: ∀x y,L x→L y→x≠y→x+32≤y∨y+32≤x
variable{L:Nat→Prop}{E:Nat→HB}
def nxE(E:Nat→HB)(x v:Nat):Nat→HB:=up E x {E x with next:=v}
def pvE(E:Nat→HB)(x v:Nat):Nat→HB:=up E x {E x with prev:=v}
theorem Ents.nxt(h:Ents t L E){x:Nat}(hx:L x)(v:Nat)(hv:v<4294967296):Ents (t.nxt x v) L (nxE E x v):=by
 have hX:=h.e x hx;have hb:=hX.h.base;refine⟨(hX.h.nxt h.ok v hv).2,fun y hy=> ?_,h.ap⟩;by_cases hyx:y=x
 ·subst hyx;unfold nxE;rw[zf1];exact hX.nxt h.ok v hv
 ·unfold nxE;rw[zf2 _ _ hyx]
  have:=h.ap y x hy hx hyx;exact(h.e y hy).out rfl rfl (zme h.ok (x+8) 4 v (by omega)) (by omega)
theorem Ents.prv(h:Ents t L E){x:Nat}(hx:L x)(v:Nat)(hv:v<4294967296):Ents (t.prv x v) L (pvE E x v):=by
 have hX:=h.e x hx;have hb:=hX.h.base;refine⟨(hX.h.prv h.ok v hv).2,fun y hy=> ?_,h.ap⟩;by_cases hyx:y=x
 ·subst hyx;unfold pvE;rw[zf1];exact hX.prv h.ok v hv
 ·unfold pvE;rw[zf2 _ _ hyx]
  have:=h.ap y x hy hx hyx;exact(h.e y hy).out rfl rfl (zme h.ok (x+12) 4 v (by omega)) (by omega)
end
section
variable{E E':Nat→HB}
def Lnk(E:Nat→HB)(x y:Nat):Prop:=(E x).next=y∧(E y).prev=x
def Seg(E:Nat→HB):Nat→List Nat→Nat→Prop
 |a,[],z=>Lnk E a z
 |a,y::l,z=>Lnk E a y∧Seg E y l z
def Cyc(E:Nat→HB):List Nat→Prop
 | [] =>True
 |h::l=>Seg E h l h
theorem zsm(E:Nat→HB):∀(A:List Nat) (a x:Nat) (B:List Nat) (z:Nat),Seg E a (A++x::B) z↔Seg E a A x∧Seg E x B z:=by
 intro A;induction A with
 |nil=>intro a x B z;exact Iff.rfl
 |cons y A ih=>intro a x B z;show Lnk E a y∧Seg E y (A++x::B) z↔(Lnk E a y∧Seg E y A x)∧Seg E x B z;rw[ih,and_assoc]
theorem zsn(E:Nat→HB)(h:Nat)(l:List Nat):Cyc E (h::l)↔Cyc E (l++ [h]):=by
 cases l with
 |nil=>exact Iff.rfl
 |cons y l=>show Lnk E h y∧Seg E y l h↔Seg E y (l++ [h]) y;rw[zsm];exact and_comm
theorem zso(E:Nat→HB):∀(A B:List Nat),Cyc E (A++B)↔Cyc E (B++A):=by
 intro A;induction A with
 |nil=>intro B;rw[List.append_nil];exact Iff.rfl
 |cons x A ih=>intro B;rw[List.cons_append,zsn,List.append_assoc,ih,List.append_assoc];exact Iff.rfl
theorem Seg.same:∀{l:List Nat} {a z:Nat},Seg E a l z→(∀x,x=a∨x∈l→(E' x).next=(E x).next)→(∀x,x∈l∨x=z→(E' x).prev=(E x).prev)→Seg E' a l z:=by
 intro l;induction l with
 |nil=>intro a z h hn hp;exact⟨by rw[hn a (.inl rfl)];exact h.1,by rw[hp z (.inr rfl)];exact h.2⟩
 |cons y l ih=>
  intro a z h hn hp;refine⟨⟨by rw[hn a (.inl rfl)];exact h.1.1,by rw[hp y (.inl (List.mem_cons_self ..))];exact h.1.2⟩,ih h.2 (fun x hx=>hn x (.inr ?_)) (fun x hx=>hp x ?_)⟩
  ·rcases hx with rfl|hx
   ·exact List.mem_cons_self ..
   ·exact List.mem_cons_of_mem _ hx
  ·rcases hx with hx|rfl
   ·exact .inl (List.mem_cons_of_mem _ hx)
   ·exact .inr rfl
theorem Cyc.same{R:List Nat}(h:Cyc E R)(he:∀x∈R,(E' x).next=(E x).next∧(E' x).prev=(E x).prev):Cyc E' R:=by
 cases R with
 |nil=>trivial
 |cons a l=>
  refine Seg.same h (fun x hx=>(he x ?_).1) (fun x hx=>(he x ?_).2)
  ·rcases hx with rfl|hx
   ·exact List.mem_cons_self ..
   ·exact List.mem_cons_of_mem _ hx
  ·rcases hx with hx|rfl
   ·exact List.mem_cons_of_mem _ hx
   ·exact List.mem_cons_self ..
theorem Seg.nx:∀{l:List Nat} {a z:Nat},Seg E a l z→(E a).next=l.headD z:=by
 intro l a z h;cases l with
 |nil=>exact h.1
 |cons y l=>exact h.1.1
theorem Seg.pv:∀{l:List Nat} {a z:Nat},Seg E a l z→(E z).prev=(a::l).getLast (List.cons_ne_nil _ _):=by
 intro l;induction l with
 |nil=>intro a z h;exact h.2
 |cons y l ih=>intro a z h;rw[ih h.2,List.getLast_cons (List.cons_ne_nil _ _)]
def jnE(E:Nat→HB)(a b:Nat):Nat→HB:=pvE (nxE E a b) b a
theorem zsp(E:Nat→HB)(a b x:Nat):(jnE E a b x).next=if x=a then b else(E x).next:=by
 unfold jnE pvE nxE up;by_cases h1:x=b
 ·subst h1;rw[if_pos rfl]
  show(if x=a then({E a with next:=x}:HB)else E x).next=_;by_cases h2:x=a
  ·rw[if_pos h2,if_pos h2]
  ·rw[if_neg h2,if_neg h2]
 ·rw[if_neg h1]
  by_cases h2:x=a
  ·rw[if_pos h2,if_pos h2]
  ·rw[if_neg h2,if_neg h2]
theorem zsq(E:Nat→HB)(a b x:Nat):(jnE E a b x).prev=if x=b then a else(E x).prev:=by
 unfold jnE pvE nxE up;by_cases h1:x=b
 ·rw[if_pos h1,if_pos h1]
 ·rw[if_neg h1,if_neg h1]
  by_cases h2:x=a
  ·rw[if_pos h2,h2]
  ·rw[if_neg h2]
theorem zsr(E:Nat→HB):∀{l:List Nat} {a z:Nat},Seg E a l z→(a::l).Nodup→∀y,y∉l→Seg (jnE E ((a::l).getLast (List.cons_ne_nil _ _)) y) a l y:=by
 intro l;induction l with
 |nil=>intro a z h _ y _;exact⟨by rw[zsp];exact if_pos rfl,by rw[zsq];exact if_pos rfl⟩
 |cons b l ih=>
  intro a z h hn y hy;have hn':=List.nodup_cons.1 hn;have hab:a≠(b::l).getLast (List.cons_ne_nil _ _):=fun e=>hn'.1 (e▸List.getLast_mem _);have hby:b≠y:=fun e=>hy (e▸List.mem_cons_self ..);refine⟨⟨?_,?_⟩,?_⟩
  ·rw[List.getLast_cons (List.cons_ne_nil _ _),zsp,if_neg hab];exact h.1.1
  ·rw[List.getLast_cons (List.cons_ne_nil _ _),zsq,if_neg hby];exact h.1.2
  ·rw[List.getLast_cons (List.cons_ne_nil _ _)]
   exact ih h.2 hn'.2 y (fun m=>hy (List.mem_cons_of_mem _ m))
end
section
variable{t u:TM}{L:Nat→Prop}{E:Nat→HB}{R:List Nat}{b:Nat}
theorem Ents.join(h:Ents t L E){a c:Nat}(ha:L a)(hc:L c):Ents ((t.nxt a c).prv c a) L (jnE E a c):=by
 have l1:=(h.e a ha).lt h.ok;have l2:=(h.e c hc).lt h.ok;exact(h.nxt ha c (by omega)).prv hc a (by omega)
theorem EntH.same{x:Nat}{X:HB}(h:EntH t x X)(ha:u.a=t.a)(hs:u.s=t.s)(o:Out t u x 0):EntH u x X:=by
 refine⟨⟨h.h.tg,by rw[ha,hs];exact h.h.base,h.h.al,by rw[ha,hs];exact h.h.fit,h.h.k0,fun g g1 g2=> ?_,fun f hf h0 j hj=> ?_,h.h.lt⟩,h.ok,h.r,h.tag⟩
 ·have hb:=h.h.base
  have al:=h.h.al;rw[o.kd_ g (by omega) (by omega)];exact h.h.kinds g g1 g2
 ·have hb:=h.h.base
  rw[o.by_ _ (by omega) (by omega)];exact h.h.byte f hf h0 j hj
theorem Ents.setRt(h:Ents t L E)(f v:Nat)(hv:v<256^fldW f):Ents (t.setRt f v) L E:=
 ⟨zgh h.ok f v hv,fun x hx=>(h.e x hx).same rfl rfl (zmj h.ok f v hv x 0),h.ap⟩
theorem zss:∀(N:Nat) (l:List Nat),l.Nodup→(∀x∈l,x<N)→l.length≤N:=by
 intro N;induction N with
 |zero=>intro l _ h;cases l with
  |nil=>exact Nat.le_refl _
  |cons a l=>exact absurd (h a (List.mem_cons_self ..)) (Nat.not_lt_zero _)
 |succ N ih=>
  intro l hn h
  have h1:=ih (l.erase N) (hn.erase N) (fun x hx=>by
   have h2:=h x (List.mem_of_mem_erase hx);have h3:x≠N:=fun e=>by subst e;exact hn.not_mem_erase hx
   omega)
  have:=List.length_erase_le (a:=N) (l:=l);by_cases hm:N∈l
  ·have:=List.length_erase_of_mem hm
   omega
  ·rw[List.erase_of_not_mem hm]at h1
   omega
structure RgI(t:TM)(L:Nat→Prop)(E:Nat→HB)(R:List Nat)(b:Nat):Prop where
 ents:Ents t L E
 sub: ∀x∈R,L x
 nd:R.Nodup
 hand:t.rt 13=R.headD 0
 broom:t.rt 14=b
 cnt:t.rt 15=R.length
 bin:R≠ [] →b∈R
 bnil:R= [] →b=0
 cyc:Cyc E R
 out: ∀x,L x→x∉R→(E x).next=0∧(E x).prev=0
theorem RgI.ne0(h:RgI t L E R b){x:Nat}(hx:L x):x≠0:=by
 have:=(h.ents.e x hx).lt h.ents.ok;omega
theorem zst{A B:List Nat}{x:Nat}(h:Cyc E (A++x::B)):(E x).next=(B++A).headD x∧(E x).prev=(x::(B++A)).getLast (List.cons_ne_nil _ _):=by
 rw[zso]at h;exact⟨Seg.nx (l:=B++A) h,Seg.pv (l:=B++A) h⟩
theorem RgI.nx0(h:RgI t L E R b){x:Nat}(hx:L x):(E x).next=0↔x∉R:=by
 constructor
 ·intro h0 hm
  obtain⟨A,B,rfl⟩:=List.append_of_mem hm;have:=(zst h.cyc).1;rw[h0]at this;cases hc:B++A with
  |nil=>rw[hc]at this;exact h.ne0 hx this.symm
  |cons n C=>
   rw[hc]at this;have hn:n∈B++A:=hc▸List.mem_cons_self ..;have hL:L n:=h.sub n (List.mem_append.2 ((List.mem_append.1 hn).elim (fun q=> .inr (List.mem_cons_of_mem _ q)) .inl));exact h.ne0 hL this.symm
 ·intro hm
  exact(h.out x hx hm).1
theorem RgI.ins0(h:RgI t L E [] b){x:Nat}(hx:L x):RgI (((((t.nxt x x).prv x x).setRt 13 x).setRt 14 x).setRt 15 1) L (jnE E x x) [x] x:=by
 have l1:=(h.ents.e x hx).lt h.ents.ok;have w4:∀f,1048576≤256^fldW f:=fun f=>by rcases zgb f with e|e<;>rw[e] <;>decide
 have e1:=(((h.ents.join hx hx).setRt 13 x (by have:=w4 13;omega)).setRt 14 x (by have:=w4 14;omega)).setRt 15 1 (by have:=w4 15;omega);refine⟨e1,fun y hy=>by rw[List.mem_singleton.1 hy];exact hx,List.pairwise_singleton _ _,rfl,rfl,rfl,fun _=>List.mem_singleton.2 rfl,fun e=>(nomatch e),?_,fun y hy hn=> ?_⟩
 ·exact⟨by rw[zsp];exact if_pos rfl,by rw[zsq];exact if_pos rfl⟩
 ·have hne:y≠x:=fun e=>hn (List.mem_singleton.2 e)
  rw[zsp,zsq,if_neg hne,if_neg hne];exact h.out y hy (fun m=>nomatch m)
theorem RgI.ins(h:RgI t L E R b)(h0:R≠ []){x:Nat}(hx:L x)(hn:x∉R):RgI (((((t.nxt (E (R.headD 0)).prev x).prv x (E (R.headD 0)).prev).nxt x (R.headD 0)).prv (R.headD 0) x).setRt 15 (R.length+1)) L (jnE (jnE E (E (R.headD 0)).prev x) x (R.headD 0)) (R++ [x]) b:=by
 cases R with
 |nil=>exact absurd rfl h0
 |cons a T=>
  have hp:(E a).prev=(a::T).getLast (List.cons_ne_nil _ _):=Seg.pv (l:=T) h.cyc;show RgI (((((t.nxt (E a).prev x).prv x (E a).prev).nxt x a).prv a x).setRt 15 (T.length+1+1)) L (jnE (jnE E (E a).prev x) x a) (a::T++ [x]) b;have hpm:(E a).prev∈a::T:=hp▸List.getLast_mem _;have hx1:x≠a:=fun e=>hn (e▸List.mem_cons_self ..);have hx2:x∉T:=fun m=>hn (List.mem_cons_of_mem _ m);have hnd:=List.nodup_cons.1 h.nd
  have hlen:T.length+2<4294967296:=by
   have:=zss 1048576 _ h.nd (fun y hy=>((h.ents.e y (h.sub y hy)).lt h.ents.ok).1);rw[List.length_cons]at this;omega
  have w15:256^fldW 15=4294967296:=rfl;have e1:=((h.ents.join (h.sub _ hpm) hx).join hx (h.sub a (List.mem_cons_self ..))).setRt 15 (T.length+1+1) (by omega);refine⟨e1,fun y hy=> ?_,?_,h.hand,h.broom,by show T.length+1+1=(T++ [x]).length+1;rw[List.length_append];rfl,fun _=>List.mem_append.2 (.inl (h.bin (List.cons_ne_nil _ _))),fun e=>(nomatch e),?_,fun y hy hm=> ?_⟩
  ·rcases List.mem_append.1 hy with m|m
   ·exact h.sub y m
   ·rw[List.mem_singleton.1 m];exact hx
  ·refine List.nodup_append.2 ⟨h.nd,List.pairwise_singleton _ _,fun y hy z hz e=> ?_⟩
   rw[List.mem_singleton.1 hz]at e;exact hn (e▸hy)
  ·have s1:Seg (jnE E (E a).prev x) a T x:=by rw[hp];exact zsr E h.cyc h.nd x hx2
   show Seg _ a (T++x:: []) a;rw[zsm];refine⟨Seg.same s1 (fun y hy=> ?_) (fun y hy=> ?_),by rw[zsp];exact if_pos rfl,by rw[zsq];exact if_pos rfl⟩
   ·rw[zsp,if_neg]
    rintro rfl;rcases hy with e|m
    ·exact hx1 e
    ·exact hx2 m
   ·rw[zsq,if_neg]
    rintro rfl;rcases hy with m|e
    ·exact hnd.1 m
    ·exact hx1 e.symm
  ·have m1:y∉a::T:=fun m=>hm (List.mem_append.2 (.inl m))
   have m2:y≠x:=fun e=>hm (List.mem_append.2 (.inr (List.mem_singleton.2 e)));have m3:y≠(E a).prev:=fun e=>m1 (e▸hpm);have m4:y≠a:=fun e=>m1 (e▸List.mem_cons_self ..);rw[zsp,zsq,if_neg m2,if_neg m4,zsp,zsq,if_neg m3,if_neg m2];exact h.out y hy m1
end
section
variable{t:TM}{L:Nat→Prop}{E:Nat→HB}{b:Nat}
def alE(E:Nat→HB)(x:Nat):Nat→HB:=pvE (nxE E x 0) x 0
theorem zsu(E:Nat→HB)(x y:Nat):(alE E x y).next=if y=x then 0 else(E y).next:=by
 unfold alE pvE nxE up;by_cases h:y=x
 ·rw[if_pos h,if_pos h,if_pos rfl]
 ·rw[if_neg h,if_neg h,if_neg h]
theorem zsv(E:Nat→HB)(x y:Nat):(alE E x y).prev=if y=x then 0 else(E y).prev:=by
 unfold alE pvE nxE up;by_cases h:y=x
 ·rw[if_pos h,if_pos h]
 ·rw[if_neg h,if_neg h,if_neg h]
theorem Ents.alone(h:Ents t L E){x:Nat}(hx:L x):Ents ((t.nxt x 0).prv x 0) L (alE E x):=(h.nxt hx 0 (by decide)).prv hx 0 (by decide)
theorem Ents.rnm(h:Ents t L E)(fr to:Nat)(hto:to<4294967296):Ents (t.rnm fr to) L E:=by
 have w3:to<256^fldW 13:=hto;have w4:to<256^fldW 14:=hto;unfold TM.rnm;split<;>split
 ·exact(h.setRt 13 to w3).setRt 14 to w4
 ·exact h.setRt 14 to w4
 ·exact h.setRt 13 to w3
 ·exact h
theorem zsw(t:TM)(fr to:Nat):(t.rnm fr to).rt 13=(if t.rt 13=fr then to else t.rt 13)∧(t.rnm fr to).rt 14=(if t.rt 14=fr then to else t.rt 14)∧(t.rnm fr to).rt 15=t.rt 15:=by
 unfold TM.rnm;split<;>split<;>exact⟨rfl,rfl,rfl⟩
def TM.rem(t:TM)(x n p to:Nat)(k:Nat):TM:=((((((t.rnm x to).nxt p n).prv n p).nxt x 0).prv x 0)).setRt 15 k
theorem RgI.rem{A B:List Nat}{x:Nat}(h:RgI t L E (A++x::B) b):RgI (t.rem x (E x).next (E x).prev (if(E x).next=x then 0 else(E x).next) (A++B).length) L (alE (jnE E (E x).prev (E x).next) x) (A++B) (if b=x then(B++A).headD 0 else b):=by
 have hnx:=zst h.cyc;have hnd:=h.nd;have hc:=h.cyc;rw[zso]at hc
 have hnd':(x::(B++A)).Nodup:=by
  have:=(List.perm_append_comm (l₁:=A) (l₂:=x::B)).nodup_iff.1 hnd;exact this
 have hxn:=List.nodup_cons.1 hnd';have hxA:x∉A:=fun m=>hxn.1 (List.mem_append.2 (.inr m));have hxB:x∉B:=fun m=>hxn.1 (List.mem_append.2 (.inl m));have hL:∀y,y∈A++B→L y:=fun y hy=>h.sub y (List.mem_append.2 ((List.mem_append.1 hy).imp id (List.mem_cons_of_mem _)));have hLx:L x:=h.sub x (List.mem_append.2 (.inr (List.mem_cons_self ..)));have hlen:=zss 1048576 _ h.nd (fun y hy=>((h.ents.e y (h.sub y hy)).lt h.ents.ok).1);have hl2:(A++x::B).length=(A++B).length+1:=by rw[List.length_append,List.length_append,List.length_cons];omega
 have hnL:L (E x).next:=by
  rw[hnx.1];cases hC:B++A with
  |nil=>exact hLx
  |cons n C=>exact hL n (by rw[List.mem_append,or_comm,←List.mem_append,hC];exact List.mem_cons_self ..)
 have hpL:L (E x).prev:=by
  rw[hnx.2];have:=List.getLast_mem (l:=x::(B++A)) (List.cons_ne_nil _ _);rcases List.mem_cons.1 this with e|m
  ·rw[e];exact hLx
  ·exact hL _ (by rw[List.mem_append,or_comm,←List.mem_append];exact m)
 have l1:=(h.ents.e _ hnL).lt h.ents.ok;have e1:=(((h.ents.rnm x (if(E x).next=x then 0 else(E x).next) (by split<;>omega)).join hpL hnL).alone hLx).setRt 15 (A++B).length (by have w15:256^fldW 15=4294967296:=rfl;omega)
 have hto:(if(E x).next=x then 0 else(E x).next)=(B++A).headD 0:=by
  rw[hnx.1];cases hC:B++A with
  |nil=>exact if_pos rfl
  |cons n C=>
   show(if n=x then 0 else n)=n;have:n≠x:=fun e=>hxn.1 (by rw[hC,←e];exact List.mem_cons_self ..);rw[if_neg this]
 refine⟨e1,hL,?_,?_,?_,rfl,fun hne=> ?_,fun he=> ?_,?_,fun y hy hm=> ?_⟩
 ·have:=(List.perm_append_comm (l₁:=A) (l₂:=B)).nodup_iff.2 hxn.2
  exact this
 ·show(t.rnm x _).rt 13=_
  rw[(zsw t x _).1,h.hand,hto];cases A with
  |nil=>show(if x=x then(B++ []).headD 0 else x)=B.headD 0;rw[if_pos rfl,List.append_nil]
  |cons a A=>
   have hax:a≠x:=fun e=>hxA (e▸List.mem_cons_self ..);show(if a=x then(B++a::A).headD 0 else a)=a;rw[if_neg hax]
 ·show(t.rnm x _).rt 14=_
  rw[(zsw t x _).2.1,h.broom,hto]
 ·by_cases hb:b=x
  ·rw[if_pos hb]
   cases hC:B++A with
   |nil=>
    have:=List.append_eq_nil_iff.1 hC;exact absurd (by rw[this.1,this.2];rfl) hne
   |cons n C=>show n∈A++B;rw[List.mem_append,or_comm,←List.mem_append,hC];exact List.mem_cons_self ..
  ·rw[if_neg hb]
   have:=h.bin (fun e=>nomatch (List.append_eq_nil_iff.1 e).2);rcases List.mem_append.1 this with m|m
   ·exact List.mem_append.2 (.inl m)
   ·rcases List.mem_cons.1 m with e|m
    ·exact absurd e hb
    ·exact List.mem_append.2 (.inr m)
 ·have hab:=List.append_eq_nil_iff.1 he
  have hb:=h.bin (fun e=>nomatch (List.append_eq_nil_iff.1 e).2);rw[hab.1,hab.2]at hb;rw[if_pos (List.mem_singleton.1 hb),hab.1,hab.2];rfl
 ·rw[zso]
  have hc':Seg E x (B++A) x:=hc;rw[hnx.1,hnx.2];cases hC:B++A with
  |nil=>trivial
  |cons n C=>
   rw[hC]at hc' hxn;have hnC:=List.nodup_cons.1 hxn.2;have s1:=zsr E hc'.2 hxn.2 n hnC.1;rw[List.getLast_cons (List.cons_ne_nil _ _)];show Seg (alE (jnE E ((n::C).getLast _) n) x) n C n;refine Seg.same s1 (fun y hy=> ?_) (fun y hy=> ?_)
   ·rw[zsu,if_neg]
    rintro rfl;rcases hy with e|m
    ·exact hxn.1 (e▸List.mem_cons_self ..)
    ·exact hxn.1 (List.mem_cons_of_mem _ m)
   ·rw[zsv,if_neg]
    rintro rfl;rcases hy with m|e
    ·exact hxn.1 (List.mem_cons_of_mem _ m)
    ·exact hxn.1 (e▸List.mem_cons_self ..)
 ·rw[zsu,zsv]
  by_cases hyx:y=x
  ·rw[if_pos hyx,if_pos hyx];exact⟨rfl,rfl⟩
  ·rw[if_neg hyx,if_neg hyx]
   have hyR:y∉A++x::B:=fun m=>by
    rcases List.mem_append.1 m with m|m
    ·exact hm (List.mem_append.2 (.inl m))
    ·rcases List.mem_cons.1 m with e|m
     ·exact hyx e
     ·exact hm (List.mem_append.2 (.inr m))
   have o:=h.out y hy hyR
   have hp:y≠(E x).prev:=fun e=>by
    rw[hnx.2]at e;have:=List.getLast_mem (l:=x::(B++A)) (List.cons_ne_nil _ _);rw[←e]at this;rcases List.mem_cons.1 this with e|m
    ·exact hyx e
    ·exact hm (by rw[List.mem_append,or_comm,←List.mem_append];exact m)
   have hn:y≠(E x).next:=fun e=>by
    rw[hnx.1]at e;cases hC:B++A with
    |nil=>rw[hC]at e;exact hyx e
    |cons n C=>
     rw[hC]at e;exact hm (by rw[List.mem_append,or_comm,←List.mem_append,hC,e];exact List.mem_cons_self ..)
   rw[zsp,zsq,if_neg hp,if_neg hn];exact o
end
section
variable{w:World}{q:MH}{t:TM}{L:Nat→Prop}{E:Nat→HB}{R:List Nat}{b:Nat}
theorem zsx(h:IsH w q t)(g:Ents t L E){x:Nat}(hx:L x):Calls prog 169 #[q,x] w (zR (.int .i64 (E x).next) fun w'=>IsH w' q t∧Fr q.blocks w w'):=
 zr1 h (g.e x hx).h (g.e x hx).n0 (by rw[wh1.1])
theorem zsy(h:IsH w q t)(g:Ents t L E){x:Nat}(hx:L x):Calls prog 172 #[q,x] w (zR (.int .i64 (E x).prev) fun w'=>IsH w' q t∧Fr q.blocks w w'):=
 zr2 h (g.e x hx).h (g.e x hx).n0 (by rw[wh1.2])
theorem zsz(h:IsH w q t)(g:Ents t L E){a c:Nat}(ha:L a)(hc:L c):Calls prog 171 #[q,a,c] w (zR (.tuple #[]) fun w'=>IsH w' q ((t.nxt a c).prv c a)∧Fr q.blocks w w'):=by
 have l1:=(g.e a ha).lt g.ok;have l2:=(g.e c hc).lt g.ok;have g1:=(g.nxt ha c (by omega)).e c hc;exact zr7 h (g.e a ha).h (g.e a ha).n0 g1.h g1.n0 (by omega) (by omega)
theorem zs0(h:IsH w q t)(g:Ents t L E){x:Nat}(hx:L x):Calls prog 173 #[q,x] w (zR (.tuple #[]) fun w'=>IsH w' q ((t.nxt x 0).prv x 0)∧Fr q.blocks w w'):=
 zr8 h (g.e x hx).h (g.e x hx).n0
theorem zs1(h:IsH w q t)(g:RgI t L E R b)(h0:R≠ []){x:Nat}(hx:L x)(hm:x∉R):Calls prog 114 #[q,x] w (zR (0:Int) fun w'=>IsH w' q (((((t.nxt (E (R.headD 0)).prev x).prv x (E (R.headD 0)).prev).nxt x (R.headD 0)).prv (R.headD 0) x).setRt 15 (R.length+1))∧Fr q.blocks w w'):=by
 have HE:=zsc h (g.ents.e x hx)
 have HN:=hid (fun W (hW:IsH W q t)=>(show Calls prog 169 #[q,x] W (zR (0:Int) fun w'=>IsH w' q t∧Fr q.blocks W w')from by
  have:=zsx hW g.ents hx;rw[(g.nx0 hx).2 hm]at this;exact this))
 obtain⟨a,ha⟩:∃a,a=R.headD 0:=⟨_,rfl⟩
 have haR:a∈R:=by
  cases R with
  |nil=>exact absurd rfl h0
  |cons y T=>rw[ha];exact List.mem_cons_self ..
 have haL:=g.sub a haR
 have hpL:L (E a).prev:=by
  obtain⟨A,B,hAB⟩:=List.append_of_mem haR;have hc:=g.cyc;rw[hAB]at hc;rw[(zst hc).2];have:=List.getLast_mem (l:=a::(B++A)) (List.cons_ne_nil _ _);rcases List.mem_cons.1 this with e|m
  ·rw[e];exact haL
  ·refine g.sub _ ?_
   rw[hAB];rcases List.mem_append.1 m with m|m
   ·exact List.mem_append.2 (.inr (List.mem_cons_of_mem _ m))
   ·exact List.mem_append.2 (.inl m)
 rw[←ha];have ha0:¬((a:Int)=0):=by have:=g.ne0 haL;omega
 have HH:=hid (fun W=>zry W q.m);unfold ptV at HH
 have HA:=hid (fun W (hW:IsH W q t)=>(show Calls prog 216 #[.agg #[q,(13:Int)]] W (zR (.int .i64 a) fun w'=>IsH w' q t∧Fr q.blocks W w')from by
  have:=rpat hW 13 (by decide);rw[g.hand,←ha]at this;exact this))
 have HP:=hid (fun W (hW:IsH W q t)=>zsy hW g.ents haL);have HJ:=hid (fun W (hW:IsH W q t)=>zsz hW g.ents hpL hx);have HK:=hid (fun W hW=>zsz (w:=W) (q:=q) hW (g.ents.join hpL hx) hx haL);have hlen:=zss 1048576 _ g.nd (fun y hy=>((g.ents.e y (g.sub y hy)).lt g.ents.ok).1);have HC:=hid (fun W (hW:IsH W q ((((t.nxt (E a).prev x).prv x (E a).prev).nxt x a).prv a x))=>(show Calls prog 174 #[q,(1:Int)] W (zR (.tuple #[]) fun w'=>IsH w' q (((((t.nxt (E a).prev x).prv x (E a).prev).nxt x a).prv a x).setRt 15 (R.length+1))∧Fr q.blocks W w')from zr9 hW 1 (R.length+1) (by show((t.rt 15:Nat):Int)+1=_;rw[g.cnt];omega) (by omega) (by omega)));clear g h hlen hpL haL haR ha;generalize(E a).prev=p at*;go_in;go_wp2_with fail;go_call HE as e w1 ⟨rfl,h1,f1⟩;have F1:=f1;clear f1;go_wp2_with fail;go_call HN.out _ h1 as e w2 ⟨rfl,h2,f2⟩;have F2:=F1.trans f2;clear f2;go_wp2_with fail;go_call HH.out _ as e w3 ⟨rfl,f3⟩;have H3:=h2.fr0 f3;have F3:=F2.trans (f3.nil (S:=q.blocks));clear f3;go_wp2_with fail;go_call HA.out _ H3 as e w4 ⟨rfl,h4,f4⟩;have F4:=F3.trans f4;clear f4;go_wp2_with fail;go_call HP.out _ h4 as e w5 ⟨rfl,h5,f5⟩;have F5:=F4.trans f5;clear f5;go_wp2_with fail;go_call HJ.out _ h5 as e w6 ⟨rfl,h6,f6⟩;have F6:=F5.trans f6;clear f6;go_wp2_with fail;go_call HK.out _ h6 as e w7 ⟨rfl,h7,f7⟩;have F7:=F6.trans f7;clear f7;go_wp2_with fail;go_call HC.out _ h7 as e w8 ⟨rfl,h8,f8⟩;have F8:=F7.trans f8;clear f8;go_wp2;go_ret;exact⟨rfl,h8,F8⟩
theorem zs2(h:IsH w q t)(g:RgI t L E [] b){x:Nat}(hx:L x):Calls prog 114 #[q,x] w (zR (0:Int) fun w'=>IsH w' q (((((t.nxt x x).prv x x).setRt 13 x).setRt 14 x).setRt 15 1)∧Fr q.blocks w w'):=by
 have HE:=zsc h (g.ents.e x hx);have lx:=(g.ents.e x hx).lt g.ents.ok
 have HN:=hid (fun W (hW:IsH W q t)=>(show Calls prog 169 #[q,x] W (zR (0:Int) fun w'=>IsH w' q t∧Fr q.blocks W w')from by
  have:=zsx hW g.ents hx;rw[(g.nx0 hx).2 (fun m=>nomatch m)]at this;exact this))
 have HH:=hid (fun W=>zry W q.m);have HB:=hid (fun W=>zse W q.m);unfold ptV at HH;unfold zsd at HB
 have HA:=hid (fun W (hW:IsH W q t)=>(show Calls prog 216 #[.agg #[q,(13:Int)]] W (zR (0:Int) fun w'=>IsH w' q t∧Fr q.blocks W w')from by
  have:=rpat hW 13 (by decide);rw[g.hand]at this;exact this))
 have HJ:=hid (fun W (hW:IsH W q t)=>zsz hW g.ents hx hx);have HS13:=hid (fun W (hW:IsH W q ((t.nxt x x).prv x x))=>(show Calls prog 83 #[.agg #[q,(13:Int)],x] W (zR (.tuple #[]) fun w'=>IsH w' q (((t.nxt x x).prv x x).setRt 13 x)∧Fr q.blocks W w')from zr0 hW 13 (by decide) x (by omega)));have HS14:=hid (fun W (hW:IsH W q (((t.nxt x x).prv x x).setRt 13 x))=>(show Calls prog 83 #[.agg #[q,(14:Int)],x] W (zR (.tuple #[]) fun w'=>IsH w' q ((((t.nxt x x).prv x x).setRt 13 x).setRt 14 x)∧Fr q.blocks W w')from zr0 hW 14 (by decide) x (by omega)));have HC:=hid (fun W (hW:IsH W q ((((t.nxt x x).prv x x).setRt 13 x).setRt 14 x))=>(show Calls prog 174 #[q,(1:Int)] W (zR (.tuple #[]) fun w'=>IsH w' q (((((t.nxt x x).prv x x).setRt 13 x).setRt 14 x).setRt 15 1)∧Fr q.blocks W w')from zr9 hW 1 1 (by show((t.rt 15:Nat):Int)+1=_;rw[g.cnt];rfl) (by omega) (by omega)));clear g h lx;go_in;go_wp2_with fail;go_call HE as e w1 ⟨rfl,h1,f1⟩;have F1:=f1;clear f1;go_wp2_with fail;go_call HN.out _ h1 as e w2 ⟨rfl,h2,f2⟩;have F2:=F1.trans f2;clear f2;go_wp2_with fail;go_call HH.out _ as e w3 ⟨rfl,f3⟩;have H3:=h2.fr0 f3;have F3:=F2.trans (f3.nil (S:=q.blocks));clear f3;go_wp2_with fail;go_call HA.out _ H3 as e w4 ⟨rfl,h4,f4⟩;have F4:=F3.trans f4;clear f4;go_wp2_with fail;go_call HJ.out _ h4 as e w5 ⟨rfl,h5,f5⟩;have F5:=F4.trans f5;clear f5;go_wp2_with fail;go_call HB.out _ as e w6 ⟨b6,rfl,hb,hsz,f6⟩;have H6:=h5.fr0 f6;have F6:=F5.trans (f6.nil (S:=q.blocks));have hnb:b6∉q.blocks:=fun hk=>Nat.lt_irrefl _ (Nat.lt_of_lt_of_le (h5.m.lt b6 hk) hsz);have hb2:=hb.alloc (.cells #[q,(13:Int)] 151);have H7:=H6.alloc;have F7:=F6.alloc;clear f6;have hc0:=hb.cell 0;have hc1:=hb.cell 1;have hc2:=hb.cell 2;have hc3:=hb.cell 3;simp at hc0 hc1 hc2 hc3;go_wp2_with fail;refine wp_loop_rounds 3 ?_;rw[rounds_succ];go_wp2_with fail;go_call HS13.out _ (H7 _) as e w8 ⟨rfl,h8,f8⟩;have hb4:=hb2.fr f8 hnb;have H8:=h8.alloc;have F8:=((F7 _).trans f8).alloc;clear hc0 hc1 hc2 hc3 f8 hb2 h8 hb;have hc0:=hb4.cell 0;have hc1:=hb4.cell 1;have hc2:=hb4.cell 2;have hc3:=hb4.cell 3;simp at hc0 hc1 hc2 hc3;go_wp2_with fail;rw[rounds_succ];go_wp2_with fail;go_call HS14.out _ (H8 _) as e w9 ⟨rfl,h9,f9⟩;have F9:=(F8 _).trans f9;clear hc0 hc1 hc2 hc3 f9 hb4;go_wp2_with fail;rw[rounds_succ];go_wp2_with fail;go_call HC.out _ h9 as e w10 ⟨rfl,h10,f10⟩;have F10:=F9.trans f10;clear f10;go_wp2;go_ret;exact⟨rfl,h10,F10⟩
end
section
variable{w:World}{q:MH}{t:TM}{L:Nat→Prop}{E:Nat→HB}
theorem zs3(h:IsH w q t)(g:Ents t L E){x n p:Nat}(hx:L x)(en:(E x).next=n)(ep:(E x).prev=p)(hnL:L n)(hpL:L p)(h0:n≠0)(hn:n=x)(k:Nat)(hk:t.rt 15=k+1)(hk4:k<4294967296):Calls prog 84 #[q,x] w (zR (0:Int) fun w'=>IsH w' q (t.rem x n p 0 k)∧Fr q.blocks w w'):=by
 have lx:=(g.e x hx).lt g.ok;have ln:=(g.e n hnL).lt g.ok;have HE:=zsc h (g.e x hx);have HN:=hid (fun W (hW:IsH W q t)=>zsx hW g hx);have gr:=g.rnm x 0 (by omega);have HR:=hid (fun W (hW:IsH W q t)=>(show Calls prog 170 #[q,x,(0:Int)] W (zR (.tuple #[]) fun w'=>IsH w' q (t.rnm x 0)∧Fr q.blocks W w')from rren hW x 0 (by omega) (by omega)));have HP:=hid (fun W hW=>zsy (w:=W) (q:=q) hW gr hx);rw[en]at HN;rw[ep]at HP;have HJ:=hid (fun W hW=>zsz (w:=W) (q:=q) hW gr hpL hnL);have HL:=hid (fun W hW=>zs0 (w:=W) (q:=q) hW (gr.join hpL hnL) hx);have HC:=hid (fun W (hW:IsH W q (((((t.rnm x 0).nxt p n).prv n p).nxt x 0).prv x 0))=>(show Calls prog 174 #[q,.int .i64 (-1)] W (zR (.tuple #[]) fun w'=>IsH w' q (t.rem x n p 0 k)∧Fr q.blocks W w')from zr9 hW (-1) k (by show(((t.rnm x 0).rt 15:Nat):Int)+ -1=_;rw[(zsw t x 0).2.2,hk];omega) (by omega) hk4));have z0:¬((n:Int)=0):=by omega
 clear g h lx ln gr hk hk4 en ep hnL hpL h0;subst hn;go_in;go_wp2_with fail;go_call HE as e w1 ⟨rfl,h1,f1⟩;have F1:=f1;clear f1;go_wp2_with fail;go_call HN.out _ h1 as e w2 ⟨rfl,h2,f2⟩;have F2:=F1.trans f2;clear f2;go_wp2_with fail;go_call HR.out _ h2 as e w3 ⟨rfl,h3,f3⟩;have F3:=F2.trans f3;clear f3;go_wp2_with fail;go_call HP.out _ h3 as e w4 ⟨rfl,h4,f4⟩;have F4:=F3.trans f4;clear f4;go_wp2_with fail;go_call HJ.out _ h4 as e w5 ⟨rfl,h5,f5⟩;have F5:=F4.trans f5;clear f5;go_wp2_with fail;go_call HL.out _ h5 as e w6 ⟨rfl,h6,f6⟩;have F6:=F5.trans f6;clear f6;go_wp2_with fail;go_call HC.out _ h6 as e w7 ⟨rfl,h7,f7⟩;have F7:=F6.trans f7;clear f7;go_wp2;go_ret;exact⟨rfl,h7,F7⟩
theorem zs4(h:IsH w q t)(g:Ents t L E){x n p:Nat}(hx:L x)(en:(E x).next=n)(ep:(E x).prev=p)(hnL:L n)(hpL:L p)(h0:n≠0)(hn:n≠x)(k:Nat)(hk:t.rt 15=k+1)(hk4:k<4294967296):Calls prog 84 #[q,x] w (zR (0:Int) fun w'=>IsH w' q (t.rem x n p n k)∧Fr q.blocks w w'):=by
 have lx:=(g.e x hx).lt g.ok;have ln:=(g.e n hnL).lt g.ok;have HE:=zsc h (g.e x hx);have HN:=hid (fun W (hW:IsH W q t)=>zsx hW g hx);have gr:=g.rnm x n (by omega);have HR:=hid (fun W (hW:IsH W q t)=>(show Calls prog 170 #[q,x,n] W (zR (.tuple #[]) fun w'=>IsH w' q (t.rnm x n)∧Fr q.blocks W w')from rren hW x n (by omega) (by omega)));have HP:=hid (fun W hW=>zsy (w:=W) (q:=q) hW gr hx);rw[en]at HN;rw[ep]at HP;have HJ:=hid (fun W hW=>zsz (w:=W) (q:=q) hW gr hpL hnL);have HL:=hid (fun W hW=>zs0 (w:=W) (q:=q) hW (gr.join hpL hnL) hx);have HC:=hid (fun W (hW:IsH W q (((((t.rnm x n).nxt p n).prv n p).nxt x 0).prv x 0))=>(show Calls prog 174 #[q,.int .i64 (-1)] W (zR (.tuple #[]) fun w'=>IsH w' q (t.rem x n p n k)∧Fr q.blocks W w')from zr9 hW (-1) k (by show(((t.rnm x n).rt 15:Nat):Int)+ -1=_;rw[(zsw t x n).2.2,hk];omega) (by omega) hk4));have z0:¬((n:Int)=0):=by omega
 have z1:¬((n:Int)=x):=by omega
 clear g h lx ln gr hk hk4 en ep hnL hpL h0;clear hn;go_in;go_wp2_with fail;go_call HE as e w1 ⟨rfl,h1,f1⟩;have F1:=f1;clear f1;go_wp2_with fail;go_call HN.out _ h1 as e w2 ⟨rfl,h2,f2⟩;have F2:=F1.trans f2;clear f2;go_wp2_with fail;go_call HR.out _ h2 as e w3 ⟨rfl,h3,f3⟩;have F3:=F2.trans f3;clear f3;go_wp2_with fail;go_call HP.out _ h3 as e w4 ⟨rfl,h4,f4⟩;have F4:=F3.trans f4;clear f4;go_wp2_with fail;go_call HJ.out _ h4 as e w5 ⟨rfl,h5,f5⟩;have F5:=F4.trans f5;clear f5;go_wp2_with fail;go_call HL.out _ h5 as e w6 ⟨rfl,h6,f6⟩;have F6:=F5.trans f6;clear f6;go_wp2_with fail;go_call HC.out _ h6 as e w7 ⟨rfl,h7,f7⟩;have F7:=F6.trans f7;clear f7;go_wp2;go_ret;exact⟨rfl,h7,F7⟩
end
section
variable{t u:TM}{S:SS}{x n:Nat}
theorem LS.same'{inn:Nat→Int}(h:LS t inn)(ha:u.a=t.a)(hr:∀c,c≤9→u.rt (3+c)=t.rt (3+c))(hh:∀y r,r=3∨r=4→u.hd y r=t.hd y r):LS u inn:=by
 refine⟨fun c hc=> ?_,fun x hx hn=> ?_,fun x hx=>h.le x (by rw[←ha];exact hx)⟩
 ·rw[ha,hr c hc]
  exact Lk.same (t:=t) (u:=u) ha (h.ln c hc) (fun y _=>⟨hh y 3 (.inl rfl),hh y 4 (.inr rfl)⟩)
 ·rw[hh x 3 (.inl rfl),hh x 4 (.inr rfl)];exact h.out x (by rw[←ha];exact hx) hn
theorem SlI.inner(hs:SlI t S)(hok:t.Ok)(h:Lv t.a S x n)(ea:u.a=t.a)(es:u.s=t.s)(er:∀c,c≤9→u.rt (3+c)=t.rt (3+c))(eh:u.hd=t.hd)(ek:u.kd=t.kd)(o0:Out t u x n):SlI u S:=by
 obtain⟨b1,b2,b3,b4,b5,b6,b7⟩:=zp4 hs hok h;obtain⟨i,hi,hx,rfl⟩:=h;have e1:=hs.each i hi;have h0:=e1.none (.inr hx);obtain⟨a1,a2,_,_,a5,a6,_⟩:=e1.at_ hok hi (.inr hx);obtain⟨c1,c2,c3,c4,c5,c6,c7⟩:=zmc (S.cls i) (by omega) e1.c9;obtain⟨z1,z2,z3,z4,_⟩:=zmd hok i hi;have hkd:∀g,zf0 u g=zf0 t g:=fun g=>by unfold zf0;rw[ea,es,ek]
 have hK:∀{y m k:Nat},KdOn t y m k→KdOn u y m k:=fun hk g g1 g2=>by rw[hkd];exact hk g g1 g2
 have hsla:∀j,sla u j=sla t j:=zmo ea es;refine⟨hs.ls.same' ea er (fun _ _ _=>by rw[eh]),fun j hj=> ?_⟩;have hj':j<t.a:=by rw[←ea];exact hj
 by_cases e:j=i
 ·subst e
  refine⟨by rw[eh];exact e1.h0,by rw[eh];exact e1.h1,by rw[eh];exact e1.h2,e1.c9,fun e=>absurd e h0,fun h0=> ?_,e1.so,fun y hy=>hK (e1.live y hy),?_,fun h0=>by rw[hsla];exact hK (e1.pk h0),fun _=> ?_⟩
  ·have:adr u j (S.cls j)=adr t j (S.cls j):=by funext k;exact zmp ea es j _ k
   rw[this];exact e1.perm h0
  ·refine e1.free.out o0 (fun y hy=> ?_)
   obtain⟨_,_,q3,q4,_⟩:=e1.at_ hok hi (x:=y) (.inl hy);have hne:y≠x:=fun e=>(List.nodup_append.1 (e1.nodup h0)).2.2 y hy x hx e;exact⟨q4,by omega,(e1.apart (.inl hy) (.inr hx) hne)⟩
  ·rw[hsla]
   exact(e1.pb h0).out o0 (by omega) (by omega)
 ·refine(hs.each j hj').other hok hj' ea es (fun _ _=>by rw[eh]) o0 ?_
  have:=zpg t e;omega
theorem SlI.root(hs:SlI t S)(hok:t.Ok)(f v:Nat)(hv:v<256^fldW f)(hf:f<3∨12<f):SlI (t.setRt f v) S:=by
 refine⟨hs.ls.same' rfl (fun c hc=> ?_) (fun _ _ _=>rfl),fun j hj=> ?_⟩
 ·rw[TM.setRt_rt,if_neg (by omega)]
 ·exact(hs.each j hj).other hok hj rfl rfl (fun _ _=>rfl) (zmj hok f v hv (sla t j+1024) 0) (.inl (Nat.le_refl _))
theorem SlI.rnxt(hs:SlI t S)(hok:t.Ok)(h:Lv t.a S x n)(v:Nat):SlI (t.nxt x v) S:=by
 obtain⟨b1,b2,b3,b4,b5,_⟩:=zp4 hs hok h;exact hs.inner hok h rfl rfl (fun _ _=>rfl) rfl rfl ((zme hok (x+8) 4 v (by omega)).wide (by omega) (by omega))
theorem SlI.rprv(hs:SlI t S)(hok:t.Ok)(h:Lv t.a S x n)(v:Nat):SlI (t.prv x v) S:=by
 obtain⟨b1,b2,b3,b4,b5,_⟩:=zp4 hs hok h;exact hs.inner hok h rfl rfl (fun _ _=>rfl) rfl rfl ((zme hok (x+12) 4 v (by omega)).wide (by omega) (by omega))
end
section
end
section
end
section
variable{w:World}{q:MH}{t:TM}
theorem zs5(h:IsH w q t):Calls prog 193 #[q] w (zR (.int .i64 (t.rt 13)) fun w'=>IsH w' q t∧Fr q.blocks w w'):=by
 have HH:=hid (fun W=>zry W q.m);unfold ptV at HH;have HA:=hid (fun W (hW:IsH W q t)=>(show Calls prog 216 #[.agg #[q,(13:Int)]] W (zR (.int .i64 (t.rt 13)) fun w'=>IsH w' q t∧Fr q.blocks W w')from rpat hW 13 (by decide)));generalize t.rt 13=v at*;go_in;go_wp2_with fail;go_call HH.out _ as e w1 ⟨rfl,f1⟩;have H1:=h.fr0 f1;have F1:=f1.nil (S:=q.blocks);clear f1;go_wp2_with fail;go_call HA.out _ H1 as e w2 ⟨rfl,h2,f2⟩;have F2:=F1.trans f2;clear f2;go_wp2;go_ret;exact⟨rfl,h2,F2⟩
end
section
end
section
variable{t:TM}
def TM.fl(t:TM)(f:Int):TM:={t with ft:=f}
end
def zHB:HB:={tag:=0,cls:=0,used:=false,label:=0,name:=0,next:=0,prev:=0,refs:=0,expiry:=0,typ:=0,size:=0,hash:=0}
section
variable{w:World}{q:MH}{t:TM}
theorem zs6(h:IsH w q t)(x:Int)(hk:zck t.kinds x 4≠5):Calls prog 243 #[q,x] w (zE (.tuple #[(0:Int),.int .i64 (zck t.kinds x 4)]) w):=by
 have hkd:Calls prog 34 #[q,x,(4:Int)] w (zE (.int .i64 (zck t.kinds x 4)) w):=zlr w q t.ms h.m.m x 4;generalize zck t.kinds x 4=K at*;clear h;have hb:((K:Int) !=5)=true:=by simp;omega
 go_in;go_wp2_with fail;go_call hkd as e w' ⟨rfl,rfl⟩;go_wp2;go_ret2;exact⟨rfl,rfl⟩
theorem zs7(h:IsH w q t)(x:Int)(hk5:zck t.kinds x 4≠5)(hk6:zck t.kinds x 4≠6):Calls prog 138 #[q,x] w (zR (.tuple #[zHB.val,(30:Int)]) fun w'=>IsH w' q t∧Fr q.blocks w w'):=by
 have HLY:=hid (fun W (hW:IsH W q t)=>zs6 hW x hk5);have hlt:=h.m.lt;have HBQ:=hid (show∀k,w.heap.size≤k→k∉q.blocks from fun k hk hm=>by have:=hlt _ hm;omega);have HS0:=hid h.m.tab.size;have HS1:=hid h.tabs.size;have hzz:zky= #[.int .i64 0,.int .i64 0,.bool false,.int .i64 0,.int .u32 0,.int .u32 0,.int .u32 0,.int .u32 0,.int .u64 0,.int .u16 0,.int .i64 0,.int .u32 0] :=rfl;have HZZ:=hid hzz;have hP:=hid (show∀w',IsH w' q t→Fr q.blocks w w'→(Ending.returned (.tuple #[.agg zHB.cells,(30:Int)])= .returned (.tuple #[zHB.val,(30:Int)])∧IsH w' q t∧Fr q.blocks w w')from fun w' a b=>⟨rfl,a,b⟩);have HFR:=show∀W W' (hW:IsH W q t) (hf:Fr [w.heap.size] W W'),IsH W' q t from fun W W' h1 hf=>⟨h1.m.fr hf (fun k hk hm=>by simp at hm;subst hm;exact HBQ.out _ (Nat.le_refl _) hk) (fun k hk hm=>by simp at hm;subst hm;have:=HS0.out;omega),h1.tabs.fr hf (by have:=HS1.out;simpa using this),h1.hi⟩;generalize zck t.kinds x 4=K at*;have k5:((K:Int) !=5)=true:=by simp;omega
 have k6:((K:Int) !=6)=true:=by simp;omega
 clear hlt hzz;go_in;go_wp2_with fail;go_call HLY.out _ (h.alloc _) as e w1 ⟨rfl,rfl⟩;have hI1:=h.alloc (.cells zky 122);have hF1:=((Fr.refl q.blocks w).alloc (.cells zky 122));have hB1:=(Blk.new w 122 zky);rw[HZZ.out]at hB1 hF1 hI1;(have d0:=hB1.cell 0;have z0:=hB1.frozen 0;have d1:=hB1.cell 1;have z1:=hB1.frozen 1;have d2:=hB1.cell 2;have z2:=hB1.frozen 2;have d3:=hB1.cell 3;have z3:=hB1.frozen 3;have d4:=hB1.cell 4;have z4:=hB1.frozen 4;have d5:=hB1.cell 5;have z5:=hB1.frozen 5;have d6:=hB1.cell 6;have z6:=hB1.frozen 6;have d7:=hB1.cell 7;have z7:=hB1.frozen 7;have d8:=hB1.cell 8;have z8:=hB1.frozen 8;have d9:=hB1.cell 9;have z9:=hB1.frozen 9;have d10:=hB1.cell 10;have z10:=hB1.frozen 10;have d11:=hB1.cell 11;have z11:=hB1.frozen 11;simp[HB.cells]at d0 d1 d2 d3 d4 d5 d6 d7 d8 d9 d10 d11);go_wp2_with fail;have hB3:=hB1;clear d0 z0 d1 z1 d2 z2 d3 z3 d4 z4 d5 z5 d6 z6 d7 z7 d8 z8 d9 z9 d10 z10 d11 z11;generalize w.alloc (.cells #[(0:Int),(0:Int),false,(0:Int),.int .u32 0,.int .u32 0,.int .u32 0,.int .u32 0,.int .u64 0,.int .u16 0,(0:Int),.int .u32 0] 122)=w9 at*;(have q0:=hB3.cell 0;have q1:=hB3.cell 1;have q2:=hB3.cell 2;have q3:=hB3.cell 3;have q4:=hB3.cell 4;have q5:=hB3.cell 5;have q6:=hB3.cell 6;have q7:=hB3.cell 7;have q8:=hB3.cell 8;have q9:=hB3.cell 9;have q10:=hB3.cell 10;have q11:=hB3.cell 11;simp at q0 q1 q2 q3 q4 q5 q6 q7 q8 q9 q10 q11);refine bodyPost_ret (by simp[results,results138,go_sem,q0,q1,q2,q3,q4,q5,q6,q7,q8,q9,q10,q11];try rfl) rfl (hP.out _ hI1 hF1)
end
section
variable{t u v:TM}{L:Nat→Prop}{E:Nat→HB}{R:List Nat}{b:Nat}{S:SS}{x n:Nat}
theorem RgI.nbr(h:RgI t L E R b)(hx:x∈R):(E x).next∈R∧(E x).prev∈R:=by
 obtain⟨A,B,rfl⟩:=List.append_of_mem hx;obtain⟨h1,h2⟩:=zst h.cyc;rw[h1,h2]
 have hm:∀y,y∈x::(B++A)→y∈A++x::B:=fun y hy=>by
  rcases List.mem_cons.1 hy with e|m
  ·rw[e];exact hx
  ·rcases List.mem_append.1 m with m|m
   ·exact List.mem_append.2 (.inr (List.mem_cons_of_mem _ m))
   ·exact List.mem_append.2 (.inl m)
 refine⟨hm _ ?_,hm _ (List.getLast_mem _)⟩;cases hC:B++A with
 |nil=>exact List.mem_cons_self ..
 |cons y C=>exact List.mem_cons_of_mem _ (List.mem_cons_self ..)
def LvP(S:SS)(x:Nat):Prop:= ∃n,Lv 7 S x n
def insT(t:TM)(E:Nat→HB)(R:List Nat)(x:Nat):TM:=
 if R= []then((((t.nxt x x).prv x x).setRt 13 x).setRt 14 x).setRt 15 1
 else((((t.nxt (E (R.headD 0)).prev x).prv x (E (R.headD 0)).prev).nxt x (R.headD 0)).prv (R.headD 0) x).setRt 15 (R.length+1)
def insH(E:Nat→HB)(R:List Nat)(x:Nat):Nat→HB:=if R= []then jnE E x x else jnE (jnE E (E (R.headD 0)).prev x) x (R.headD 0)
def insB(R:List Nat)(b x:Nat):Nat:=if R= []then x else b
theorem RgI.insAny(h:RgI t L E R b)(hx:L x)(hn:x∉R):RgI (insT t E R x) L (insH E R x) (R++ [x]) (insB R b x):=by
 unfold insT insH insB;by_cases h0:R= []
 ·subst h0
  rw[if_pos rfl,if_pos rfl,if_pos rfl];exact h.ins0 hx
 ·rw[if_neg h0,if_neg h0,if_neg h0]
  exact h.ins h0 hx hn
structure Nbr(t u:TM)(L:Nat→Prop):Prop where
 a:u.a=t.a
 s:u.s=t.s
 hd:u.hd=t.hd
 sl:u.sl=t.sl
 kd:u.kd=t.kd
 ft:u.ft=t.ft
 rt: ∀f,f<13∨15<f→u.rt f=t.rt f
 by_: ∀i,(∀x,L x→i<x+8∨x+16≤i)→zdv t.a t.s≤i→zfz u i=zfz t i
 ok:u.Ok
theorem Nbr.refl(hok:t.Ok):Nbr t t L:=⟨rfl,rfl,rfl,rfl,rfl,rfl,fun _ _=>rfl,fun _ _ _=>rfl,hok⟩
theorem Nbr.trans(h:Nbr t u L)(k:Nbr u v L):Nbr t v L:=
 ⟨k.a.trans h.a,k.s.trans h.s,k.hd.trans h.hd,k.sl.trans h.sl,k.kd.trans h.kd,k.ft.trans h.ft,fun f hf=>(k.rt f hf).trans (h.rt f hf),fun i hi hl=>(k.by_ i hi (by rw[h.a,h.s];exact hl)).trans (h.by_ i hi hl),k.ok⟩
theorem zs8(hok:t.Ok)(hx:L x)(hb:zdv t.a t.s≤x)(o v:Nat)(ho:o=8∨o=12):Nbr t (t.setB (x+o) 4 v) L:=
 ⟨rfl,rfl,rfl,rfl,rfl,rfl,fun _ _=>rfl,fun i hi _=>by rw[zlg hok _ _ _ (by omega),if_neg];have:=hi x hx;omega,zlf hok _ _ _⟩
theorem zs9(hok:t.Ok)(f v:Nat)(hf:f=13∨f=14∨f=15)(hv:v<4294967296):Nbr t (t.setRt f v) L:=by
 have hw:v<256^fldW f:=by rcases hf with rfl|rfl|rfl<;>exact hv
 exact⟨rfl,rfl,rfl,rfl,rfl,rfl,fun g hg=>by rw[TM.setRt_rt,if_neg (by omega)],fun i _ hl=>(zmj hok f v hw i 0).by_ i hl (by omega),zgh hok f v hw⟩
theorem Ents.base(h:Ents t L E)(hx:L x):zdv t.a t.s≤x:=(h.e x hx).h.base
theorem Nbr.nxt(h:Nbr t u L)(hx:L x)(hb:zdv t.a t.s≤x)(v:Nat):Nbr t (u.nxt x v) L:=h.trans (zs8 h.ok hx (by rw[h.a,h.s];exact hb) 8 v (.inl rfl))
theorem Nbr.prv(h:Nbr t u L)(hx:L x)(hb:zdv t.a t.s≤x)(v:Nat):Nbr t (u.prv x v) L:=h.trans (zs8 h.ok hx (by rw[h.a,h.s];exact hb) 12 v (.inr rfl))
theorem Nbr.root(h:Nbr t u L)(f v:Nat)(hf:f=13∨f=14∨f=15)(hv:v<4294967296):Nbr t (u.setRt f v) L:=h.trans (zs9 h.ok f v hf hv)
theorem Nbr.rnm(h:Nbr t u L)(fr to:Nat)(hto:to<4294967296):Nbr t (u.rnm fr to) L:=by
 unfold TM.rnm;split<;>split
 ·exact(h.root 13 to (by decide) hto).root 14 to (by decide) hto
 ·exact h.root 14 to (by decide) hto
 ·exact h.root 13 to (by decide) hto
 ·exact h
theorem RgI.lt4(h:RgI t L E R b)(hx:L x):x<1048576:=((h.ents.e x hx).lt h.ents.ok).1
theorem RgI.len(h:RgI t L E R b):R.length≤1048576:=zss 1048576 _ h.nd (fun y hy=>h.lt4 (h.sub y hy))
theorem RgI.nbrIns(h:RgI t L E R b)(hx:L x):Nbr t (insT t E R x) L:=by
 have r0:=Nbr.refl (L:=L) h.ents.ok;have hb:∀y,L y→zdv t.a t.s≤y:=fun y hy=>h.ents.base hy;have lx:=h.lt4 hx;have hl:=h.len;unfold insT;by_cases h0:R= []
 ·rw[if_pos h0]
  exact((((r0.nxt hx (hb x hx) x).prv hx (hb x hx) x).root 13 x (by decide) (by omega)).root 14 x (by decide) (by omega)).root 15 1 (by decide) (by omega)
 ·rw[if_neg h0]
  have hh:R.headD 0∈R:=by
   cases R with
   |nil=>exact absurd rfl h0
   |cons a T=>exact List.mem_cons_self ..
  have hp:=h.sub _ (h.nbr hh).2;have hhL:=h.sub _ hh;exact((((r0.nxt hp (hb _ hp) x).prv hx (hb x hx) _).nxt hx (hb x hx) _).prv hhL (hb _ hhL) x).root 15 _ (by decide) (by omega)
theorem RgI.nbrRem(h:RgI t L E R b)(hx:x∈R)(k:Nat)(hk:k≤R.length):Nbr t (t.rem x (E x).next (E x).prev (if(E x).next=x then 0 else(E x).next) k) L:=by
 have r0:=Nbr.refl (L:=L) h.ents.ok;have hb:∀y,L y→zdv t.a t.s≤y:=fun y hy=>h.ents.base hy;have hl:=h.len;have hn:=h.sub _ (h.nbr hx).1;have hp:=h.sub _ (h.nbr hx).2;have hxL:=h.sub x hx;have ln:=h.lt4 hn;exact(((((r0.rnm x _ (by split<;>omega)).nxt hp (hb _ hp) _).prv hn (hb _ hn) _).nxt hxL (hb x hxL) 0).prv hxL (hb x hxL) 0).root 15 _ (by decide) (by omega)
theorem SlI.rnm(hs:SlI t S)(hok:t.Ok)(fr to:Nat)(hto:to<4294967296):SlI (t.rnm fr to) S:=by
 have w3:to<256^fldW 13:=hto;have w4:to<256^fldW 14:=hto;have h3:=hs.root hok 13 to w3 (by decide);have k3:=zgh hok 13 to w3;unfold TM.rnm;split<;>split
 ·exact h3.root k3 14 to w4 (by decide)
 ·exact hs.root hok 14 to w4 (by decide)
 ·exact h3
 ·exact hs
theorem SlI.ins(hs:SlI t S)(h:RgI t L E R b)(hL:∀y,L y→∃m,Lv t.a S y m)(hx:L x):SlI (insT t E R x) S:=by
 have lx:=h.lt4 hx;have hl:=h.len;have ok:=h.ents.ok;obtain⟨n,lvx⟩:=hL x hx;unfold insT;by_cases h0:R= []
 ·rw[if_pos h0]
  have ok1:=zlf ok (x+8) 4 x;have ok2:=zlf ok1 (x+12) 4 x;have s2:=(hs.rnxt ok lvx x).rprv ok1 lvx x;have ok3:=zgh ok2 13 x (by have:256^fldW 13=4294967296:=rfl;omega);have s3:=s2.root ok2 13 x (by have:256^fldW 13=4294967296:=rfl;omega) (by decide);have ok4:=zgh ok3 14 x (by have:256^fldW 14=4294967296:=rfl;omega);have s4:=s3.root ok3 14 x (by have:256^fldW 14=4294967296:=rfl;omega) (by decide);exact s4.root ok4 15 1 (by decide) (by decide)
 ·rw[if_neg h0]
  have hh:R.headD 0∈R:=by
   cases R with
   |nil=>exact absurd rfl h0
   |cons a T=>exact List.mem_cons_self ..
  obtain⟨np,lvp⟩:=hL _ (h.sub _ (h.nbr hh).2);obtain⟨nh,lvh⟩:=hL _ (h.sub _ hh);have ok1:=zlf ok ((E (R.headD 0)).prev+8) 4 x;have s1:=hs.rnxt ok lvp x;have ok2:=zlf ok1 (x+12) 4 (E (R.headD 0)).prev;have s2:=s1.rprv ok1 lvx (E (R.headD 0)).prev;have ok3:=zlf ok2 (x+8) 4 (R.headD 0);have s3:=s2.rnxt ok2 lvx (R.headD 0);have ok4:=zlf ok3 (R.headD 0+12) 4 x;have s4:=s3.rprv ok3 lvh x;exact s4.root ok4 15 _ (by have:256^fldW 15=4294967296:=rfl;omega) (by decide)
theorem SlI.rem(hs:SlI t S)(h:RgI t L E R b)(hL:∀y,L y→∃m,Lv t.a S y m)(hx:x∈R)(k:Nat)(hk:k≤R.length):SlI (t.rem x (E x).next (E x).prev (if(E x).next=x then 0 else(E x).next) k) S:=by
 have hl:=h.len;have ok:=h.ents.ok;have hn:=h.sub _ (h.nbr hx).1;have hp:=h.sub _ (h.nbr hx).2;have hxL:=h.sub x hx;have ln:=h.lt4 hn;obtain⟨n1,lvx⟩:=hL x hxL;obtain⟨n2,lvn⟩:=hL _ hn;obtain⟨n3,lvp⟩:=hL _ hp;have hto:(if(E x).next=x then 0 else(E x).next)<4294967296:=by split<;>omega
 have ok0:=(Nbr.refl (L:=L) ok).rnm x _ hto;have s0:=hs.rnm ok x _ hto;generalize hg:t.rnm x (if(E x).next=x then 0 else(E x).next)=r at*;have ea:r.a=t.a:=ok0.a;rw[←ea]at lvx lvn lvp;have ok1:=zlf ok0.ok ((E x).prev+8) 4 (E x).next;have s1:=s0.rnxt ok0.ok lvp (E x).next;have ok2:=zlf ok1 ((E x).next+12) 4 (E x).prev;have s2:=s1.rprv ok1 lvn (E x).prev;have ok3:=zlf ok2 (x+8) 4 0;have s3:=s2.rnxt ok2 lvx 0;have ok4:=zlf ok3 (x+12) 4 0;have s4:=s3.rprv ok3 lvx 0;have s5:=s4.root ok4 15 k (by have:256^fldW 15=4294967296:=rfl;omega) (by decide);unfold TM.rem;rw[hg];exact s5
end
section
open Go.RowKit Go.Shelf
attribute [local go_sem] Oper.semAt_some
structure RinM(W:World)(q:MH)(t:TM)(Bm:Nat):Prop where
 m:IsH W q t
 bm:Blk W Bm 26 #[q]
def RinS(q:MH)(t:TM)(A B:World):Prop:=Fr q.blocks A B∧IsH B q t
theorem zta(x:Nat)(l pre:List Nat):(l++pre).headD x=(l++(pre++ [x])).headD 0:=by
 cases l with
 |nil=>cases pre with
  |nil=>rfl
  |cons a p=>rfl
 |cons a l=>rfl
theorem ztb(n:Nat)(hn:1≤n)(q:MH)(t:TM)(Bm:Nat){L:Nat→Prop}{E:Nat→HB}{R:List Nat}{b:Nat}(g:RgI t L E R b)(hBm:Bm∉q.blocks):zbu (α:=Nat) Fence.wide n prog 192 #[.pointer (some ⟨Bm,0,none⟩)] (fun x=> #[.int .i64 x]) (fun W=>RinM W q t Bm) (RinS q t) (fun pre x=>∃rest,R=pre++x::rest) (fun xs=>xs=R) (fun _=>True):=by
 intro lo J Jx W hJM hJS hXS hY h0;have hM0:=hJM _ _ h0;refine callsIn_of_wp func192 rfl trivial ?_ rfl;simp only[ntmps192,List.size_toArray,List.length_cons,List.length_nil,Nat.reduceAdd,Nat.reduceSub,Array.replicate_succ,Array.replicate_zero,List.push_toArray,List.append_toArray,List.nil_append,List.cons_append];have c1:=hM0.bm.cell 0;simp at c1;have hha:=fun W hW=>zs5 (w:=W) (q:=q) (t:=t) hW;have hle:=fun W hW=>rlen (w:=W) (q:=q) (t:=t) hW;rw[g.hand]at hha;generalize hh0:R.headD 0=z0 at hha;have HH0:=hid hh0;rw[g.cnt]at hle;have HHA:=hid hha;have HLE:=hid hle;have hll:=g.len;have HNX:=hid (fun W (hW:IsH W q t) x (hx:x∈R)=>zsx hW g.ents (g.sub x hx));have HCY:=g.cyc;have HJM:=hid hJM;have HJS:=hid hJS;have HY:=hid hY;have H0:=hid h0;have HM0:=hid hM0;clear hJM hJS hXS hY g h0 hM0 hha hle hh0;gi_wp2_with (first|(refine⟨trivial,?_⟩;gi_at_call 193;refine(callsIn_wide.2 (HHA.out _ HM0.m)).mono ?_;rintro e W1 ⟨rfl,h1,f1⟩;have hJ1:=HJS.out _ _ _ H0.out ⟨f1,h1⟩;have hM1:=HJM.out _ _ hJ1;have c2:=hM1.bm.cell 0;simp at c2;have HJ1:=hid hJ1;have HM1:=hid hM1;clear h1 f1 hJ1 hM1)|(refine⟨trivial,?_⟩;gi_at_call 51;refine(callsIn_wide.2 (HLE.out _ HM1.m)).mono ?_;rintro e W2 ⟨rfl,h2,f2⟩)|fail);have HJ2:=hid (HJS.out _ _ _ HJ1.out ⟨f2,h2⟩);clear h2 f2 c1 c2 HJ1 H0;gi_loopw [3,8] (fun u v wr=>∃pre rest,R=pre++rest∧(∃z:Nat,Hid ((rest++pre).headD 0=z)∧u= .int .i64 z)∧v= .int .i64 pre.length∧Hid (J pre wr)) (fun _ v _=>R.length-(intOf v).toNat);case atStart=>exact⟨[],R,rfl,⟨z0,hid (by rw[List.append_nil];exact HH0.out),rfl⟩,rfl,HJ2⟩
 case round=>
  clear HJ2 HM1 HM0;obtain⟨pre,rest,hpr,⟨z,hz,rfl⟩,rfl,hJ⟩:=hrel;have hM:=HJM.out _ _ hJ.out;have c1:=hM.bm.cell 0;simp at c1;have hlr:R.length=pre.length+rest.length:=by rw[hpr,List.length_append]
  rcases rest with _|⟨x,rest⟩
  ·have b1':decide (pre.length<R.length)=false:=by simp;rw[hlr];simp
   have HPR:=hid hpr;have HB:=hid hlr;generalize R.length=n at*;clear hpr hM hlr hll;gi_wp2
   all_goals
    try refine⟨fun f h=>(by cases h),?_⟩
    gi_wp2;go_end0;exact⟨⟨_,rfl⟩,.inl ⟨_,by rw[HPR.out,List.append_nil],hJ.out⟩⟩
  ·have b1':decide (pre.length<R.length)=true:=by simp;rw[hlr];simp
   have hxR:x∈R:=by rw[hpr];exact List.mem_append.2 (.inr (List.mem_cons_self ..))
   obtain rfl:x=z:=hz.out;clear hz;obtain⟨fn,tmps,assign,body,hy,hR⟩:=HY.out pre x wr ⟨rest,hpr⟩ hJ.out;have hnx:=HNX.out;have hcy:=HCY;rw[hpr]at hcy;have en:=(zst hcy).1;rw[zta x rest pre]at en;generalize hz1:(rest++(pre++ [x])).headD 0=z1 at en;have HZ1:=hid hz1
   have HN:=hid (fun W (hW:IsH W q t)=>(show Calls prog 169 #[q,x] W (zR z1 fun w'=>IsH w' q t∧Fr q.blocks W w')from by
    have:=HNX.out W hW x hxR;rw[en]at this;exact this))
   have HPR:=hid hpr;have hw1:=i6 ((pre.length:Int)+1);have HLR:=hid hlr;generalize hRn:R.length=RN at*;clear hpr hcy en hlr hll hRn hnx hM hz1;gi_wp2;refine hR.mono ?_;rintro e W3 (⟨rfl,hJ3⟩|⟨rfl,hJx3⟩)
   ·have hM3:=HJM.out _ _ hJ3
    have c3:=hM3.bm.cell 0;simp at c3;have HJ3:=hid hJ3;clear hJ3 c1;gi_wp2_with (first|(refine⟨trivial,?_⟩;gi_at_call 169;refine(callsIn_wide.2 (HN.out _ hM3.m)).mono ?_;rintro e W4 ⟨rfl,h4,f4⟩)|fail);refine⟨⟨pre++ [x],rest,by rw[HPR.out];simp,⟨z1,HZ1,rfl⟩,?_,hid (HJS.out _ _ _ HJ3.out ⟨f4,h4⟩)⟩,?_⟩
    ·simp
    ·have:=HLR.out
     simp[intOf]at this⊢;omega
   ·gi_wp2
    refine bodyPost_ret (results_none rfl _ _ _) rfl ?_;exact⟨⟨_,rfl⟩,.inr ⟨_,trivial,hJx3⟩⟩
end
def remB(A B:List Nat)(b x:Nat):Nat:=if b=x then(B++A).headD 0 else b
section
open Go.RowKit Go.Shelf
attribute [local go_sem] Oper.semAt_some
theorem ztc(n:Nat)(m:Nat)(w:World):CallsIn Fence.wide n prog 96 #[.pointer (some ⟨m,0,none⟩)] w (zR (.func (.func 192) #[] #[.pointer (some ⟨w.heap.size,0,none⟩)]) fun w'=>w'=w.alloc (.cells #[some m] 26)):=by
 refine callsIn_of_wp func96 rfl trivial ?_ rfl;simp only[ntmps96,List.size_toArray,List.length_cons,List.length_nil,Nat.reduceAdd,Nat.reduceSub,Array.replicate_succ,Array.replicate_zero,List.push_toArray,List.append_toArray,List.nil_append,List.cons_append];gi_wp2;go_ret;exact⟨rfl,rfl⟩
theorem ztd(n:Nat)(hn:4≤n)(w:World)(q:MH)(t:TM)(h:IsH w q t){L:Nat→Prop}{E:Nat→HB}{l:List Nat}{b:Nat}(g:RgI t L E l b):CallsIn Fence.wide n prog 43 #[.pointer (some ⟨q.m,0,none⟩)] w fun e w'=> ∃v,e= .returned v∧w'.ownsRow w.heap.size 3 1 v l.length (intC l)∧IsH w' q t∧Fr q.blocks w w':=by
 have h1:1≤n:=by omega
 obtain⟨i0,hi,hz0,hz1,hz2⟩:=info_parts zbr
 have hll:=g.len
 refine callsIn_of_wp_marks func43 rfl trivial ?_ rfl
 simp only[ntmps43,List.size_toArray,List.length_cons,List.length_nil,Nat.reduceAdd,Nat.reduceSub,Array.replicate_succ,Array.replicate_zero,List.push_toArray,List.append_toArray,List.nil_append,List.cons_append]
 gi_wp2_with (first|(refine⟨trivial,?_⟩;gi_at_call 96;refine(ztc _ _ _).mono ?_;rintro e w' ⟨rfl,rfl⟩)|fail)
 obtain⟨W0,hW0⟩: ∃W0,((w.alloc (.cells #[.slice none 0 0] 69)).alloc (.cells #[q] 26))=W0:=⟨_,rfl⟩
 have bL:Blk W0 w.heap.size 69 #[.slice none 0 0] :=by rw[←hW0];exact(Blk.new w _ _).alloc _
 have bM:Blk W0 (w.heap.size+1) 26 #[q] :=by
  rw[←hW0]
  have:=Blk.new (w.alloc (.cells #[.slice none 0 0] 69)) 26 #[.pointer (some ⟨q.m,0,none⟩)]
  rwa[World.size_alloc]at this
 have fr0:Fr q.blocks w W0:=by rw[←hW0];exact((Fr.refl _ w).alloc _).alloc _
 have hT0:IsH W0 q t:=by rw[←hW0];exact(h.alloc _).alloc _
 have hz:W0.heap.size=w.heap.size+2:=by rw[←hW0];simp
 have hlt:=h.m.lt
 have hgx:=h.m.tab.size
 have hgt:=h.tabs.size
 rw[hW0]
 clear hW0 h
 generalize hLL:w.heap.size=Lb at*
 have HLL:=hid hLL
 have hq: ∀k,Lb≤k→k∉q.blocks:=fun k hk hm=>by have:=hlt k hm;omega
 have hnb: ∀k,k<W0.heap.size→k∉ [W0.heap.size,W0.heap.size+1] :=fun k hk hm=>by simp at hm;omega
 have hmem: ∀k∈ [W0.heap.size,W0.heap.size+1],k∈q.blocks∨w.heap.size≤k:=fun k hk=>by simp at hk;exact .inr (by omega)
 have hEM: ∀A B S,RinM A q t (Lb+1)→Fr S A B→(∀k∈S,k=Lb∨W0.heap.size≤k)→RinM B q t (Lb+1):=fun A B S hM hf hS=>
  ⟨⟨hM.m.m.fr hf (fun k hk hm=>by have:=hS k hm;have:=hlt k hk;omega) (fun k hk hm=>by have:=hS k hm;omega),hM.m.tabs.fr hf (fun k hk=>by have:=hS k hk;omega),hM.m.hi⟩,hM.bm.fr hf (fun hm=>by have:=hS _ hm;omega)⟩
 refine zbv rfl h1 (gf:=192) (lb:= #[.pointer (some ⟨Lb+1,0,none⟩)]) rfl trivial (enters_of func192 (by kernel_rfl) rfl)
  (ztb (n-1) (by omega) q t (Lb+1) g (hq _ (by omega))) (fun _=>rfl)
  (fun A B hA hM hs=>⟨hs.1.keep2 hA ⟨hq _ (by omega),hq _ (by omega)⟩,hs.1.size⟩)
  (fun pre W=>RinM W q t (Lb+1)∧Fr q.blocks w W∧ ∃v,Blk W Lb 69 #[v] ∧W.ownsRow Lb 3 1 v pre.length (intC pre)∧ ∀g,v.ownBlock=some g→W0.heap.size+1<g)
  (fun _ _ _=>False)
  (fun s A hh=>hh.1) (fun cd s A hh=>hh.elim)
  ?hI (fun cd s A B hh _=>hh.elim) ?hIs (fun cd s A B hh _=>hh.elim) ⟨⟨hT0,bM⟩,fr0,_,bL,World.ownsRow_nil _ _ _ _,fun g e=>by simp[Value.ownBlock]at e⟩
  (fun y a' W=>a'={tmps:= #[.pointer (some ⟨q.m,0,none⟩),undef,.slice none 0 0,.pointer (some ⟨Lb,0,none⟩),.int .i64 y,.pointer (some ⟨q.m,0,none⟩),.func (.func 192) #[] #[.pointer (some ⟨Lb+1,0,none⟩)],.int .i64 y,undef,undef,undef,undef,undef],defers:= []})
  (fun y a' A B hh _=>hh) ?assign ?body ?done ?stop
 case hI=>exact fun s A B ⟨hM,hF,v,hL,hR,hO⟩ hf=>⟨hEM A B _ hM hf (fun k hk=> .inr (by simp at hk;omega)),hF.step hf hmem,v,hL.fr hf (hnb _ (by omega)),zhu hR hO hf (fun k hk=>by simp at hk;omega),hO⟩
 case hIs=>exact fun s A B ⟨hM,hF,v,hL,hR,hO⟩ hs=>⟨⟨hs.2,hM.bm.fr hs.1 (hq _ (by omega))⟩,hF.trans hs.1,v,hL.fr hs.1 (hq _ (by omega)),zhu hR hO hs.1 (fun k hk=>by have:=hlt k hk;omega),hO⟩
 case assign=>
  rintro lo pre y W K hW hi hK
  gi_wp2
  exact hK _ _ (Keep2.refl _ _) hi rfl
 case body=>
  rintro lo pre y a' W hW ⟨rest,hpr⟩ ⟨hM,hF,v,hL,hR,hO⟩ rfl
  have hc1:=hL.cell 0
  have hf1:=hL.frozen 0
  simp at hc1
  have hpl:pre.length+1≤1048576:=by rw[hpr]at hll;simp at hll;omega
  have hbw:Lb≤W.heap.size:=by have:=hF.size;have:=HLL.out;omega
  have HO:=hid hO
  clear hO hpr bL bM fr0 hT0
  have HKEY:=hid (fun(o:Oper) (a:Act) (ops:Array Oper) (rest:List Oper) (Q:Exit→Act→World→Prop) (h0:o.guard=none) (s x:Operand) (h3:o.op= .call {callee:= .builtin .append,args:= #[s,x],argTypes:= #[69,69]}) (h4:a.eval s=v) (h5:a.eval x= .slice (some ⟨W.heap.size,0,none⟩) 1 1)=>
   wpListIn_append_own_at (F:=Fence.wide.inRound lo) (nF:=n-1-1) (P:=prog) (ops:=ops) (rest:=rest) (Q:=Q) (w:=W.alloc (.cells #[y] 3)) h0 s x 69 h3 Lb 3 i0 (.int .i64 0) 1 8 underlying69 hi hz0 hz1 hz2 rfl (by decide) v _ _ h4 (hR.alloc _) ⟨W.heap.size,0,none⟩ 1 1 [.int .i64 y] h5 rfl (zhx _ _ _) (by simp[Value.oneCell']) (by unfold maxLen;omega) (by omega) (by simp;omega))
  clear hi
  gi_wp2_with (gi_at_builtin;refine HKEY.out _ _ _ _ _ rfl _ _ rfl rfl rfl ?_;intro v' w1 hown' hgrow _ hob;obtain⟨g',cap',rfl⟩:=ownsRow_succ hown';have hfg:=zhw hgrow;have hL1:=hL.fr hfg (fun hm=>by have:=HO.out Lb (zhv hm);omega);have hc1:w1.cell? ⟨Lb,0,none⟩=some v:=hL1.cell 0;have hf1:=hL1.frozen 0)
  have hNL:Lb<W0.heap.size:=by omega
  have hfW:Fr (Lb::ownS v) W (w1.setCell ⟨Lb,0,none⟩ (.slice (some ⟨g',0,none⟩) (pre.length+1) cap')):=(hfg.mono (S':=Lb::ownS v) (fun k hk=> .inl (List.mem_cons_of_mem _ hk))).setCell (.inl (by simp)) _
  have hSm: ∀k∈Lb::ownS v,k=Lb∨W0.heap.size+1<k:=fun k hk=>by
   rcases List.mem_cons.1 hk with rfl|hk
   ·exact .inl rfl
   ·exact .inr (HO.out k (zhv hk))
  refine⟨hfW.keep2 hW ⟨fun hm=>by have:=hSm _ hm;omega,fun hm=>by have:=hSm _ hm;omega⟩,hEM W _ _ hM hfW (fun k hk=>by have:=hSm k hk;omega),hF.step hfW (fun k hk=>by have:=hSm k hk;exact .inr (by omega)),_,by simpa using hL1.set 0 (.slice (some ⟨g',0,none⟩) (pre.length+1) cap'),?_,fun g hg=> ?_⟩
  ·have:=zeb hown' hL1 (by decide) 0 (.slice (some ⟨g',0,none⟩) (pre.length+1) cap')
   rw[List.length_append,List.length_singleton]
   have e:intC (pre++ [y])=intC pre++ [.int .i64 y] :=by simp[intC]
   rw[e]
   exact this
  ·rcases hob with h|h
   ·rw[hg]at h;exact HO.out g h.symm
   ·rw[hg]at h
    injection h with h
    rw[h,World.size_alloc]
    omega
 case done=>
  rintro D xs W hD hxs ⟨hM,hF,v,hL,hR,_⟩ hK
  have hc1:=hL.cell 0
  simp at hc1
  gi_wp2
  refine⟨by simp,.inl ⟨_,_,rfl,run_takeDeferred (w:=W) hK,?_⟩⟩
  have hfp:Fr [D] W (W.putObj D (.deferred none)):=Fr.putObj _ _ (by simp)
  subst hxs
  refine⟨_,results_tmp rfl _ _ _,v,rfl,(by rw[HLL.out];exact ownsRow_putObj hR (.deferred none) hK rfl),⟨hM.m.m.fr hfp (fun k hk hm=> ?_) (fun k hk hm=> ?_),hM.m.tabs.fr hfp (fun k hk=> ?_),hM.m.hi⟩,hF.step hfp (by have:=HLL.out;simp;omega)⟩
  ·simp at hm;subst hm;exact hq _ (by omega) hk
  ·simp at hm;omega
  ·simp at hk;omega
 case stop=>
  rintro D cd pre W hD _ hh hK
  exact hh.elim
end
end Go.Proofs.YtghllbkjghnmhaaGreatDoor
