/- Several texts in one. -/
import Derived.Lib.MinMax
import Derived.Test.YtolhkhdbgnciiaaGreatDoorGI
namespace Go.Proofs.YtolhkhdbgnciiaaGreatDoor
open _root_.Go.Proofs.Tryz
open Go.Lib (hid)
open Go.IntWalk (i64_in)
set_option linter.unusedVariables false
set_option linter.unusedSimpArgs false
open Go.RowKit
set_option maxRecDepth 100000
set_option maxHeartbeats 4000000
def zbs:Nat→List (List Nat)→List Nat
 |_,[] => []
 |k,x::L=>(k+x.length)::zbs (k+x.length) L
def le2(n:Nat):List Nat:= [n %256,n/256]
def zad(L:List (List Nat)):List Nat:=L.length::0::((zbs 0 L).flatMap le2++L.flatten)
def zci(L:List (List Nat)):Nat:=2+(L.map fun x=>2+min x.length 480).sum
def zdc(L:List (List Nat)):Nat:=if L.length<1∨16<L.length then 2 else if 480<zci L then 22 else 0
structure GoodR(L:List (List Nat)):Prop where
 n:1≤L.length∧L.length≤16
 s:zci L≤480
theorem packE_0{L:List (List Nat)}:zdc L=0↔GoodR L:=by
 unfold zdc;constructor
 ·intro h
  by_cases h1:L.length<1∨16<L.length
  ·rw[if_pos h1]at h;cases h
  ·rw[if_neg h1]at h
   by_cases h2:480<zci L
   ·rw[if_pos h2]at h;cases h
   ·exact⟨by omega,by omega⟩
 ·rintro⟨h1,h2⟩
  rw[if_neg (by omega),if_neg (by omega)]
theorem zlg:∀(L:List (List Nat)),((L.map fun x=>2+min x.length 480).sum≤478→(L.map fun x=>2+min x.length 480).sum=2*L.length+L.flatten.length)
 | [],_=>rfl
 |x::L,h=>by
  simp only[List.map_cons,List.sum_cons,List.length_cons,List.flatten_cons,List.length_append]at h⊢;have:=zlg L (by omega);omega
theorem GoodR.size{L:List (List Nat)}(h:GoodR L):zci L=2+2*L.length+L.flatten.length:=by
 have:=h.s;have:=zlg L (by unfold zci at this;omega);unfold zci;omega
theorem zch:∀(k:Nat) (L:List (List Nat)),(zbs k L).length=L.length
 |_,[] =>rfl
 |k,x::L=>by simp[zbs,zch]
theorem zde:∀(l:List Nat),(l.flatMap le2).length=2*l.length
 | [] =>rfl
 |x::l=>by rw[List.flatMap_cons,List.length_append,zde l];simp[le2];omega
theorem zar(L:List (List Nat)):(zad L).length=2+2*L.length+L.flatten.length:=by
 unfold zad;rw[List.length_cons,List.length_cons,List.length_append,zde,zch];omega
theorem zhp:∀(k:Nat) (L:List (List Nat)) (x:List Nat),zbs k (L++ [x])=zbs k L++ [k+L.flatten.length+x.length]
 |k,[],x=>by simp[zbs]
 |k,y::L,x=>by simp[zbs,zhp,Nat.add_assoc]
theorem zkt(L:List (List Nat)):∀(k i:Nat),i<L.length→(zbs k L)[i]?=some (k+(L.take (i+1)).flatten.length):=by
 induction L with
 |nil=>intro k i h;simp at h
 |cons x L ih=>
  intro k i h;cases i with
  |zero=>simp[zbs]
  |succ i=>
   rw[zbs,List.getElem?_cons_succ,ih _ i (by simp at h;omega)];simp[Nat.add_assoc]
theorem zjr:∀(l:List Nat) (i e:Nat),l[i]?=some e→(l.flatMap le2)[2*i]?=some (e %256)∧(l.flatMap le2)[2*i+1]?=some (e/256)
 | [],i,e,h=>by simp at h
 |x::l,0,e,h=>by
  simp at h;subst h;exact⟨rfl,rfl⟩
 |x::l,i+1,e,h=>by
  have:=zjr l i e (by simpa using h);rw[List.flatMap_cons];rw[show 2*(i+1)=(2*i)+2 from by omega];exact⟨this.1,this.2⟩
def pkH(L:List (List Nat))(k:Nat):List Nat:=L.length::0::(zbs 0 (L.take k)).flatMap le2
def pkN(L:List (List Nat))(k:Nat):List Nat:=(pkH L k++List.replicate (2*(L.length-k)) 0)++((L.take k).flatten++List.replicate (L.flatten.length-(L.take k).flatten.length) 0)
theorem pk_0(L:List (List Nat)):pkN L 0=(List.replicate (2+2*L.length+L.flatten.length) 0).set 0 L.length:=by
 unfold pkN pkH;simp only[List.take_zero,zbs,List.flatMap_nil,List.flatten_nil,List.nil_append,Nat.sub_zero,List.length_nil];rw[show 2+2*L.length+L.flatten.length=(2*L.length+L.flatten.length)+1+1 from by omega,List.replicate_succ,List.replicate_succ,List.set_cons_zero,←List.replicate_append_replicate];rfl
theorem zy9(L:List (List Nat)):pkN L L.length=zad L:=by
 unfold pkN pkH zad;rw[List.take_length,Nat.sub_self,Nat.sub_self];simp
theorem za0{L:List (List Nat)}{k:Nat}{x:List Nat}(h:L[k]?=some x):(L.take (k+1)).flatten=(L.take k).flatten++x∧(L.take k).flatten.length+x.length≤L.flatten.length:=by
 have hk:=(List.getElem?_eq_some_iff.1 h).1;have e:L.take (k+1)=L.take k++ [x] :=by rw[List.take_add_one,h];rfl
 refine⟨by rw[e];simp,?_⟩;have e2:L.flatten=(L.take (k+1)).flatten++(L.drop (k+1)).flatten:=by rw[←List.flatten_append,List.take_append_drop]
 rw[e2,e];simp
theorem zze(L:List (List Nat))(k:Nat)(hk:k≤L.length):(pkH L k).length=2+2*k:=by
 unfold pkH;rw[List.length_cons,List.length_cons,zde,zch,List.length_take];omega
theorem zy5(L:List (List Nat))(k:Nat)(hk:k≤L.length):(pkN L k).length=2+2*L.length+L.flatten.length:=by
 have h1:=zze L k hk
 have h2:(L.take k).flatten.length≤L.flatten.length:=by
  conv=>rhs;rw[←List.take_append_drop k L,List.flatten_append,List.length_append]
  omega
 unfold pkN;rw[List.length_append,List.length_append,List.length_append,List.length_replicate,List.length_replicate,h1];omega
theorem zv0{L:List (List Nat)}{k:Nat}{x:List Nat}(h:L[k]?=some x):((spl (pkN L k) (2+2*L.length+(L.take k).flatten.length) x).set (2+2*k) (((L.take k).flatten.length+x.length) %256)).set (2+2*k+1) (((L.take k).flatten.length+x.length)/256)=pkN L (k+1):=by
 have hk:=(List.getElem?_eq_some_iff.1 h).1;obtain⟨hf,hl⟩:=za0 h;have h1:=zze L k (by omega)
 have hr:List.replicate (2*(L.length-k)) 0=0::0::List.replicate (2*(L.length-(k+1))) 0:=by
  rw[show 2*(L.length-k)=2*(L.length-(k+1))+1+1 from by omega,List.replicate_succ,List.replicate_succ]
 have e1:pkH L (k+1)=pkH L k++le2 ((L.take k).flatten.length+x.length):=by
  unfold pkH;rw[List.take_add_one,h,Option.toList_some,zhp,List.flatMap_append];simp
 have hsp:spl (pkN L k) (2+2*L.length+(L.take k).flatten.length) x=pkH L k++(0::0::(List.replicate (2*(L.length-(k+1))) 0++((L.take k).flatten++(x++List.replicate (L.flatten.length-(L.take k).flatten.length-x.length) 0)))):=by
  unfold spl pkN;rw[hr]
  have hA:(pkH L k++0::0::List.replicate (2*(L.length-(k+1))) 0).length=2+2*L.length:=by
   rw[List.length_append,h1,List.length_cons,List.length_cons,List.length_replicate];omega
  rw[List.take_append,List.drop_append,List.take_of_length_le (by omega),List.drop_eq_nil_of_le (by omega),hA,List.nil_append,List.take_append,List.drop_append,List.take_of_length_le (by omega),List.drop_eq_nil_of_le (by omega),List.nil_append];rw[show 2+2*L.length+(L.take k).flatten.length-(2+2*L.length)-(L.take k).flatten.length=0 from by omega,List.take_zero,List.append_nil,List.drop_replicate,show L.flatten.length-(L.take k).flatten.length-(2+2*L.length+(L.take k).flatten.length+x.length-(2+2*L.length)-(L.take k).flatten.length)=L.flatten.length-(L.take k).flatten.length-x.length from by omega];simp[List.append_assoc]
 rw[hsp];unfold pkN;rw[e1,hf];rw[List.set_append_right _ _ (by omega),h1,Nat.sub_self,List.set_cons_zero,List.set_append_right _ _ (by omega),h1,show 2+2*k+1-(2+2*k)=0+1 from by omega,List.set_cons_succ,List.set_cons_zero];simp[le2,List.append_assoc,Nat.sub_sub]
structure RecA(P:Nat→Prop)(w:World)(ad:Option Addr)(L:List (List Nat)):Prop where
 at_: ∀i,i<L.length→ ∃g o a c,ad=some ⟨g,o,none⟩∧w.cell? ⟨g,o+i,none⟩=some (.slice a (L[i]?.getD []).length c)∧Byt w a (L[i]?.getD [])∧g<w.heap.size∧P g∧ ∀h p,a=some ⟨h,p,none⟩→P h
 len:L.length≤9223372036854775807
theorem RecA.fr{P:Nat→Prop}{w w':World}{ad:Option Addr}{L:List (List Nat)}{S:List Nat}(h:RecA P w ad L)(hf:Fr S w w')(hS:∀k∈S,¬P k):RecA P w' ad L:=
 ⟨fun i hi=>by
  obtain⟨g,o,a,c,e,h1,h2,h3,h4,h5⟩:=h.at_ i hi;exact⟨g,o,a,c,e,(hf.cell (p:=⟨g,o+i,none⟩) h3 (fun k=>hS g k h4)).trans h1,h2.fr hf (fun g' o' e' k=>hS g' k (h5 g' o' e')),Nat.lt_of_lt_of_le h3 hf.size,h4,h5⟩,h.len⟩
theorem RecA.fr0{P:Nat→Prop}{w w':World}{ad:Option Addr}{L:List (List Nat)}(h:RecA P w ad L)(hf:Fr [] w w'):RecA P w' ad L:=h.fr hf (fun k hk=>by simp at hk)
theorem RecA.byte{P:Nat→Prop}{w:World}{ad:Option Addr}{L:List (List Nat)}(h:RecA P w ad L):∀x∈L,∀b∈x,b<256:=fun x hx b hb=>by
 obtain⟨i,hi,rfl⟩:=List.mem_iff_getElem.1 hx;obtain⟨g,o,a,c,e,h1,h2,h3,h4,h5⟩:=h.at_ i hi;rw[List.getElem?_eq_getElem hi]at h2;exact h2.byte b hb
theorem zx1(w:World)(a:Option Addr)(c n:Nat)(hn:n≤1099511627776):Calls prog 174 #[.slice a n c] w fun e w'=>e= .returned (.int .i64 (2+min n 480:Nat))∧w'=w:=by
 obtain⟨m,hm⟩:∃m:Nat,min (n:Int) 480=m:=⟨min n 480,by omega⟩;have hm2:2+min n 480=2+m:=by omega
 rw[hm2];have wm:IntKind.i64.wrap (2+(m:Int))=((2+m:Nat):Int):=by rw[i64_in _ (by omega)];omega
 clear hm2;go_enter func174,ntmps174;go_wp2_with fail;go_ret;exact⟨rfl,rfl⟩
def sumN(L:List (List Nat)):Nat:=(L.map fun x=>2+min x.length 480).sum
theorem zon{L:List (List Nat)}{k:Nat}{x:List Nat}(h:L[k]?=some x):sumN (L.take (k+1))=sumN (L.take k)+(2+min x.length 480):=by
 unfold sumN;rw[List.take_add_one,h,Option.toList_some,List.map_append,List.sum_append];simp
theorem zmi(L:List (List Nat)):sumN L≤482*L.length:=by
 induction L with
 |nil=>simp[sumN]
 |cons x L ih=>unfold sumN at ih⊢;rw[List.map_cons,List.sum_cons,List.length_cons];omega
theorem zv5{P:Nat→Prop}(w:World)(ad:Option Addr)(cap:Nat)(L:List (List Nat))(h:RecA P w ad L)(hl:L.length≤16):Calls prog 173 #[.slice ad L.length cap,.func (.func 174) #[] #[]] w fun e w'=>e= .returned (.int .i64 (sumN L))∧w'=w:=by
 have HA:=hid h;have HT:=hid (fun k x (hx:L[k]?=some x)=>zon hx);have HZ:=hid (show sumN (L.take 0)=0 from rfl);have HF:=hid (show sumN (L.take L.length)=sumN L from by rw[List.take_length])
 have HLe:=hid (fun k=>(show sumN (L.take k)≤8000 from by
  have h1:=zmi (L.take k);have h2:=List.length_take (i:=k) (l:=L);omega))
 obtain⟨M,hM⟩:∃M:Nat→Nat,(fun k=>sumN (L.take k))=M:=⟨_,rfl⟩;have hM':∀k,sumN (L.take k)=M k:=fun k=>by rw[←hM]
 simp only[hM']at HT HZ HF HLe;generalize sumN L=R at*;obtain⟨n,hn⟩:∃n,L.length=n:=⟨_,rfl⟩;rw[hn]at HF hl⊢;have HN:=hid hn;clear hn h hM hM';go_enter func173,ntmps173;go_wp2_with fail;go_loopg [5,10] (n+1) (fun gk v5 v10 W=>∃i:Nat,v5= .int .i64 (M i)∧v10= .int .i64 i∧(i+gk=n+1∧i≤n)∧w=W);case atStart=>exact⟨0,by rw[HZ.out];rfl,rfl,by omega,rfl⟩
 case round=>
  obtain⟨i,rfl,rfl,hi,rfl⟩:=hrel;by_cases hlt:i<n
  ·have b6':decide (i<n)=true:=by simp;omega
   have hL:i<L.length:=by rw[HN.out];exact hlt
   obtain⟨g,o,a,c,rfl,hc,hb,hg,_,_⟩:=HA.out.at_ i hL;have hgd:L[i]?=some L[i] :=List.getElem?_eq_getElem hL;have hx:=HT.out i _ hgd;rw[hgd]at hc hb;simp only[Option.getD_some]at hc hb;have hbl:=hb.len;have hle:=HLe.out i;generalize(L[i]'hL).length=m at*;have H1:=hid (fun V=>zx1 V a c m hbl);obtain⟨z,hz⟩:∃z,2+min m 480=z:=⟨_,rfl⟩;have hz2:z≤482:=by omega
   rw[hz]at hx H1;have HX:=hid hx;have i0:(0:Int)≤i:=by omega
   have i1:(i:Int)<n:=by omega
   have ws:IntKind.i64.wrap ((M i:Int)+z)=((M i+z:Nat):Int):=by rw[i64_in _ (by omega)];push_cast;rfl
   have wi:=i64_in ((i:Int)+1) (by omega);clear hx hz hgd hL hb hbl;go_wp2_with fail;with_reducible refine(H1.out _).mono ?_
   rintro e w2 ⟨rfl,rfl⟩;go_wp2_with fail;go_roundg (gk-1);case measure=>omega
   case rel=>exact⟨i+1,by rw[HX.out];push_cast;rfl,by go_num,by omega,rfl⟩
  ·obtain rfl:i=n:=by omega
   have b6':decide (i<i)=false:=by simp
   go_wp2_with fail;go_ret;rw[HF.out];exact⟨rfl,rfl⟩
theorem zxd{P:Nat→Prop}(w:World)(ad:Option Addr)(cap:Nat)(L:List (List Nat))(h:RecA P w ad L):Calls prog 87 #[.slice ad L.length cap] w fun e w'=>e= .returned (.tuple #[.int .i64 (if zdc L=0 then zci L else 0:Nat),.int .i64 (zdc L)])∧w'=w:=by
 have HS:=hid (fun hl:L.length≤16=>zv5 w ad cap L h hl);have hsl:=zmi L;have hlen:=h.len;have hc16:¬(L.length<1∨16<L.length)→sumN L≤7712:=fun k=>by omega
 by_cases h1:L.length<1∨16<L.length
 ·have hp:zdc L=2:=by unfold zdc;rw[if_pos h1]
  rw[hp];generalize L.length=n at*;clear hsl h HS hc16;obtain⟨p1,e1⟩:∃p,decide ((n:Int)<1)=p:=⟨_,rfl⟩;have e1':decide (n<1)=p1:=by rw[←e1];exact decide_eq_decide.2 (by omega)
  cases p1 with
  |true=>
   go_enter func87,ntmps87;go_wp2_with fail;go_ret2;exact⟨rfl,rfl⟩
  |false=>
   have hn:16<n:=by have:=of_decide_eq_false e1;omega
   have e2:decide ((16:Int)<n)=true:=by simp;omega
   have e2':decide (16<n)=true:=by simp;omega
   clear h1 hn;go_enter func87,ntmps87;go_wp2_with fail;go_ret2;exact⟨rfl,rfl⟩
 ·have e1:decide ((L.length:Int)<1)=false:=decide_eq_false (by omega)
  have e1':decide (L.length<1)=false:=decide_eq_false (by omega);have e2:decide ((16:Int)<L.length)=false:=decide_eq_false (by omega);have e2':decide (16<L.length)=false:=decide_eq_false (by omega);have hS:=HS.out (by omega);have hsz:zci L=2+sumN L:=rfl;have hs7:=hc16 h1;have ws:IntKind.i64.wrap (2+(sumN L:Int))=((zci L:Nat):Int):=by rw[i64_in _ (by omega)];omega
  have hpe:zdc L=if 480<zci L then 22 else 0:=by unfold zdc;rw[if_neg h1]
  rw[hpe];have hsb:zci L≤8000:=by omega
  clear hsz hpe h1 HS h hsl hc16 hs7;generalize sumN L=s at*;generalize zci L=z at*;generalize L.length=n at*;by_cases h2:480<z
  ·have e3:decide ((480:Int)<z)=true:=by simp;omega
   have e3':decide (480<z)=true:=by simp;omega
   simp only[if_pos h2];clear h2;go_enter func87,ntmps87;go_wp2_with fail;with_reducible refine hS.mono ?_
   rintro e w2 ⟨rfl,rfl⟩;go_wp2_with fail;go_ret2;exact⟨rfl,rfl⟩
  ·have e3:decide ((480:Int)<z)=false:=by simp;omega
   have e3':decide (480<z)=false:=by simp;omega
   simp only[if_neg h2];clear h2;go_enter func87,ntmps87;go_wp2_with fail;with_reducible refine hS.mono ?_
   rintro e w2 ⟨rfl,rfl⟩;go_wp2_with fail;go_ret2;exact⟨rfl,rfl⟩
theorem z0g{w:World}{g cap:Nat}{l m:List Nat}(h:RowB w g cap l)(x:Nat){a:Option Addr}{c:Nat}(hm:Byt w a m)(hE:x+m.length≤l.length){A:Option Addr}{d n:Nat}(hA:(0<m.length→A=some ⟨g,x,none⟩))(hd:m.length≤d)(hn:n=m.length):∀ty,(Builtin.copy_ #[44,44] ty #[.slice A d d,.slice a n c]).run prog w= .ok (goInt n) (w.setCells g x (zaj m)):=fun ty=>by
 subst hn;have hmin:Nat.min m.length d=m.length:=Nat.min_eq_left hd;by_cases h0:m= []
 ·subst h0
  exact run_copy_none w _ _ ty 5 _ _ _ _ _ _ underlying44 (by kernel_rfl) hmin
 ·have hpos:0<m.length:=List.length_pos_iff.2 h0
  rw[hA hpos];obtain⟨ga,oa,ha,_⟩:=hm.at_ 0 hpos;have hcl:(zaj m).length=m.length:=by simp[zaj]
  rw[ha]
  have:=run_copy_cells (P:=prog) w 44 44 ty 5 g x d d ⟨ga,oa,none⟩ m.length c (zaj m) underlying44 (by kernel_rfl) (by rw[hcl,hmin]) (fun j v hv=>by
   have hj:j<m.length:=by
    have:=(List.getElem?_eq_some_iff.1 hv).1;rw[hcl]at this;exact this
   obtain⟨g',o',e',hc',_⟩:=hm.at_ j hj;rw[ha]at e';injection e' with e';injection e' with e1 e2;subst e1 e2;have hadd:(⟨ga,oa,none⟩:Addr).add j=⟨ga,oa+j,none⟩:=by unfold Addr.add;split<;>simp_all
   rw[hadd,hc',←hv,zaj,List.getElem?_map,List.getElem?_eq_getElem hj]
   rfl) (fun j hj=>by rw[hcl]at hj;rw[h.cell (x+j) (by omega)];rfl) (fun j _=>h.frozen _) (fun v hv=>by
    obtain⟨k,_,rfl⟩:=List.mem_map.1 hv;rfl)
  rw[hcl]at this;exact this
theorem z0v{P:Nat→Prop}(w:World)(ad:Option Addr)(cap:Nat)(L:List (List Nat))(h:RecA P w ad L)(hG:GoodR L):Calls prog 33 #[.slice ad L.length cap] w fun e w'=>∃g,e= .returned (.tuple #[.slice (some ⟨g,0,none⟩) (zci L) (zci L),.int .i64 0])∧w.heap.size≤g∧RowB w' g (zci L) (zad L)∧Fr [] w w':=by
 have HS:=zxd w ad cap L h;rw[packE_0.2 hG,if_pos rfl]at HS;have hsz:=hG.size;have hs:=hG.s;have hn1:=hG.n;have HA:=hid h;have HMk:=hid (fun V=>zb8 (P:=prog) 44 5 underlying44 zis .i64 .i64 (zci L) (by omega) V);have H0:=hid (pk_0 L);have HST:=hid (fun k x (hx:L[k]?=some x)=>zv0 hx);have HTF:=hid (fun k x (hx:L[k]?=some x)=>za0 hx);have HAL:=hid (zy9 L);have HPL:=hid (fun k hk=>zy5 L k hk);have HTL:=hid (show(L.take L.length).flatten.length=L.flatten.length from by rw[List.take_length]);rw[←hsz]at H0 HPL;obtain⟨F,hF⟩:∃F,L.flatten.length=F:=⟨_,rfl⟩;rw[hF]at hsz HTF HTL;have hb0:=HA.out.byte;have HBy:=hid hb0;clear hF hb0 h hG;generalize zci L=z at*;obtain⟨N,hN⟩:∃N,L.length=N:=⟨_,rfl⟩;rw[hN]at hsz hn1 HS H0 HST HTL HPL HAL⊢;have HN:=hid hN;have HSZ:=hid hsz;have hz2:2≤z:=by omega
 obtain⟨M,hM⟩:∃M:Nat→Nat,(fun k=>(L.take k).flatten.length)=M:=⟨_,rfl⟩;have hM':∀k,(L.take k).flatten.length=M k:=fun k=>by rw[←hM]
 have HTF2:=hid (fun k x (hx:L[k]?=some x)=>(show M (k+1)=M k+x.length∧M k+x.length≤F from by
  have:=HTF.out k x hx;refine⟨?_,by rw[←hM];exact this.2⟩;rw[←hM' (k+1),this.1,List.length_append,hM']))
 have HM0:=hid (show M 0=0 from by rw[←hM' 0];rfl);simp only[hM']at HST HTL;clear hM hM' hN hsz HTF;have wN:IntKind.u8.wrap (N:Int)=(N:Int):=by show(N:Int) %256=N;omega
 have wa:IntKind.i64.wrap (2*(N:Int))=((2*N:Nat):Int):=by rw[i64_in _ (by omega)];push_cast;rfl
 have wb:IntKind.i64.wrap (2+((2*N:Nat):Int))=((2+2*N:Nat):Int):=by rw[i64_in _ (by omega)];push_cast;rfl
 have hn16:=hn1.2;have z1:(0:Int)<z:=by omega
 have z1':0<z:=by omega
 clear hn1;go_enter func33,ntmps33;go_wp2_with fail;with_reducible refine HS.mono ?_
 rintro e w2 ⟨rfl,rfl⟩;clear HS;have hm:=HMk.out w2;have R0:=hid (RowB.of (Blk.new w2 5 (bytes (List.replicate z 0))));rw[List.length_replicate]at R0;have F0:=hid ((Fr.refl [] w2).alloc (.cells (bytes (List.replicate z 0)) 5));have dd:=R0.out.cell 0 (by rw[List.length_replicate];omega);have zz:=R0.out.frozen 0;clear HMk;generalize w2.alloc (.cells (bytes (List.replicate z 0)) 5)=w3 at*;have R1:=hid (R0.out.set 0 N (by rw[List.length_replicate];omega));rw[←H0.out]at R1;have F1:=hid (F0.out.setCell (p:=⟨w2.heap.size,0,none⟩) (.inr (Nat.le_refl _)) (.int .u8 (N:Int)));clear R0 F0 H0;go_wp2_with fail;go_loopg [8,34] (N+1) (fun gk v8 v34 W=>∃i:Nat,v8= .int .i64 ((2+2*N+M i:Nat):Int)∧v34= .int .i64 i∧(i+gk=N+1∧i≤N)∧Hid (RowB W w2.heap.size z (pkN L i))∧Hid (Fr [] w2 W));case atStart=>exact⟨0,by rw[HM0.out];rfl,rfl,by omega,R1,F1⟩
 case round=>
  clear R1 F1;obtain⟨i,rfl,rfl,hi,R2,F2⟩:=hrel;by_cases hlt:i<N
  ·have b6':decide (i<N)=true:=by simp;omega
   have hL:i<L.length:=by rw[HN.out];exact hlt
   obtain⟨g,o,a,c,rfl,hc,hb,hg,hP,hPa⟩:=(HA.out.fr0 F2.out).at_ i hL;have hgd:L[i]?=some L[i] :=List.getElem?_eq_getElem hL;rw[hgd]at hc hb;simp only[Option.getD_some]at hc hb;have hx:=HTF2.out i _ hgd;have hst:=HST.out i _ hgd;have hpl:=HPL.out i (by omega);generalize L[i]'hL=x at*;obtain⟨m,hm⟩:∃m,x.length=m:=⟨_,rfl⟩;have hz:=HSZ.out;obtain⟨K,hK⟩:∃K,2+2*N+M i=K:=⟨_,rfl⟩;obtain⟨A,hA⟩:∃A:Option Addr,(if z=K then some ⟨w2.heap.size,0,none⟩else some ⟨w2.heap.size,K,none⟩)=A:=⟨_,rfl⟩;have hKz:K+m≤z:=by omega
   have hcp:=z0g (n:=m) (d:=z-K) (A:=A) (c:=c) R2.out K hb (by omega) (fun h=>by rw[←hA,if_neg (by omega)]) (by omega) hm.symm;have RS:=hid (R2.out.setCells K x (by omega));have FS:=hid (F2.out.setCells (.inr (Nat.le_refl w2.heap.size)) (zaj x) K);rw[hm]at hc hx;rw[hK];rw[hK,hm]at hst;have hsl:(spl (pkN L i) K x).length=z:=by rw[zb2 _ _ _ (by omega)];exact hpl
   obtain⟨E,hE⟩:∃E,M i+m=E:=⟨_,rfl⟩;obtain⟨e1,he1⟩:∃e1,E %256=e1:=⟨_,rfl⟩;obtain⟨e2,he2⟩:∃e2,E/256=e2:=⟨_,rfl⟩;have eE:(K:Int)+m-(2+2*N)=(E:Int):=by omega
   have u1:IntKind.u8.wrap (E:Int)=(e1:Int):=by show(E:Int) %256=_;omega
   have u2:(E:Int)/256=(e2:Int):=by omega
   have u3:IntKind.u8.wrap (e2:Int)=(e2:Int):=by show(e2:Int) %256=_;omega
   have r0:2+2*i+1<z:=by omega
   have HE:=hid (And.intro hE (And.intro he1 he2));rw[hE,he1,he2]at hst;have HX:=hid (And.intro hx (And.intro hst (And.intro hK (And.intro hz hm))));generalize spl (pkN L i) K x=l1 at*;generalize wr.setCells w2.heap.size K (zaj x)=W1 at*;have dd1:=RS.out.cell (2+2*i) (by omega);have zz1:=RS.out.frozen (2+2*i);have RS2:=hid (RS.out.set (2+2*i) e1 (by omega));have dd2:=RS2.out.cell (2+2*i+1) (by rw[List.length_set];omega);have zz2:=RS2.out.frozen (2+2*i+1);have RS3:=hid (RS2.out.set (2+2*i+1) e2 (by rw[List.length_set];omega));rw[hst]at RS3;have FS3:=hid ((FS.out.setCell (p:=⟨w2.heap.size,2+2*i,none⟩) (.inr (Nat.le_refl _)) (.int .u8 (e1:Int))).setCell (p:=⟨w2.heap.size,2+2*i+1,none⟩) (.inr (Nat.le_refl _)) (.int .u8 (e2:Int)));clear hx hst hK hz hm hb hL hgd hpl hE he1 he2 RS RS2 FS hsl;have i0:(0:Int)≤i:=by omega
   have i1:(i:Int)<N:=by omega
   have k0:(0:Int)≤K:=by omega
   have k1:(K:Int)≤z:=by omega
   have k1':K≤z:=by omega
   go_wp2_with fail;go_roundg (gk-1);case measure=>omega
   case rel=>
    obtain⟨⟨h1,h1'⟩,h2,h3,h4,h5⟩:=HX.out;exact⟨i+1,by rw[h1,←h3];push_cast;congr 1;omega,by go_num,by omega,RS3,FS3⟩
  ·obtain rfl:i=N:=by omega
   have b6':decide (i<i)=false:=by simp
   rw[HAL.out]at R2;go_wp2_with fail;go_ret2;exact⟨w2.heap.size,rfl,Nat.le_refl _,R2.out,F2.out⟩
theorem zrg{P:Nat→Prop}(w:World)(ad:Option Addr)(cap:Nat)(L:List (List Nat))(h:RecA P w ad L)(hG:zdc L≠0):Calls prog 33 #[.slice ad L.length cap] w fun e w'=>e= .returned (.tuple #[.slice none 0 0,.int .i64 (zdc L)])∧w'=w:=by
 have HS:=zxd w ad cap L h;rw[if_neg hG]at HS;generalize zdc L=k at*;have hk:((k:Int) !=0)=true:=by simp;omega
 have hk':(k !=0)=true:=by simp;omega
 generalize L.length=n at*;clear h hG;go_enter func33,ntmps33;go_wp2_with fail;with_reducible refine HS.mono ?_
 rintro e w2 ⟨rfl,rfl⟩;go_wp2_with fail;go_ret2;exact⟨rfl,rfl⟩
theorem xnan(w:World)(a:Int):Calls prog 291 #[.int .i64 a] w fun e w'=>e= .returned (.bool false)∧w'=w:=by
 have h:(a !=a)=false:=by simp
 go_enter func291,ntmps291;go_wp2_with fail;go_ret;exact⟨rfl,rfl⟩
theorem z09(w:World)(a b:Int):Calls prog 275 #[.int .i64 a,.int .i64 b] w fun e w'=>e= .returned (.bool (decide (a<b)))∧w'=w:=by
 have HN:=hid (fun V=>xnan V a);obtain⟨p,hp⟩:∃p,decide (a<b)=p:=⟨_,rfl⟩;rw[hp];go_enter func275,ntmps275;go_wp2_with fail;with_reducible refine(HN.out _).mono ?_
 rintro e w2 ⟨rfl,rfl⟩;go_wp2_with fail;go_ret;exact⟨rfl,rfl⟩
theorem zub(w:World)(g n:Nat)(f:Nat→Int)(hb:Blk w g 3 (zbp n f))(hn:n≤1000)(h1:1≤n)(hs:∀i,i+1<n→f i≤f (i+1)):Calls prog 220 #[.slice (some ⟨g,0,none⟩) n n] w fun e w'=>e= .returned (.bool true)∧Fr [] w w':=by
 have HB:=hid hb;have HS:=hid hs;have w1:=i64_in ((n:Int)-1) (by omega);clear hb hs;go_enter func220,ntmps220;go_wp2_with fail;go_loopg [3] (n+1) (fun gk v3 W=>∃i:Nat,v3= .int .i64 i∧(i+1≤gk∧i+1≤n)∧Hid (Fr [] w W));case atStart=>exact⟨n-1,by congr 1<;>omega,by omega,hid (Fr.refl [] w)⟩
 case round=>
  obtain⟨i,rfl,hi,F2⟩:=hrel;rcases i with _|j
  ·go_wp2_with fail
   go_ret;exact⟨rfl,F2.out⟩
  ·have hB:=HB.out.fr F2.out (by simp)
   have c1:=hB.cellF (j+1) (by omega);have c0:=hB.cellF j (by omega);have hle:=HS.out j (by omega);have b0:decide ((0:Int)<(j:Int)+1)=true:=decide_eq_true (by omega);have HL:=hid (fun V=>z09 V (f (j+1)) (f j));rw[show decide (f (j+1)<f j)=false from by simp;exact hle]at HL;generalize f (j+1)=a1 at*;generalize f j=a0 at*;clear hB hle;go_wp2_with fail;go_quiet ((go_at_call 275;exact zl3 ((HL.out _).mono fun e w' ⟨h1,h2⟩=>⟨h1,h2.symm⟩)));go_wp2_with fail;go_roundg (gk-1);case measure=>omega
   case rel=>exact⟨j,rfl,by omega,hid (F2.out.drewN _)⟩
theorem zvj{L:List (List Nat)}(hG:GoodR L){k:Nat}(hk:k<L.length):ldTo (zad L) (2+2*k) 2=(L.take (k+1)).flatten.length:=by
 have he:=zkt L 0 k hk;rw[Nat.zero_add]at he;obtain⟨h1,h2⟩:=zjr _ _ _ he;have hl:2*k+1<((zbs 0 L).flatMap le2).length:=by rw[zde,zch];omega
 have g1:(zad L)[2+2*k]?=some ((L.take (k+1)).flatten.length %256):=by
  unfold zad;rw[show 2+2*k=2*k+1+1 from by omega,List.getElem?_cons_succ,List.getElem?_cons_succ,List.getElem?_append_left (by omega)];exact h1
 have g2:(zad L)[2+2*k+1]?=some ((L.take (k+1)).flatten.length/256):=by
  unfold zad;rw[show 2+2*k+1=2*k+1+1+1 from by omega,List.getElem?_cons_succ,List.getElem?_cons_succ,List.getElem?_append_left (by omega)];exact h2
 simp only[ldTo,Nat.add_zero,g1,g2,Option.getD_some];omega
theorem GoodR.flat{L:List (List Nat)}(h:GoodR L):L.flatten.length≤476:=by
 have h1:=h.size;have h2:=h.s;have h3:=h.n;omega
theorem zfb(L:List (List Nat))(k:Nat):(L.take k).flatten.length≤(L.take (k+1)).flatten.length∧(L.take k).flatten.length≤L.flatten.length:=by
 constructor
 ·rw[List.take_add_one,List.flatten_append,List.length_append];omega
 ·conv=>rhs;rw[←List.take_append_drop k L,List.flatten_append,List.length_append]
  omega
theorem z1u(w:World)(a:Option Addr)(c:Nat)(L:List (List Nat))(hG:GoodR L)(hb:Byt w a (zad L)):Calls prog 118 #[.slice a (zad L).length c] w fun e w'=>∃g,e= .returned (.tuple #[.slice (some ⟨g,0,none⟩) L.length L.length,.int .i64 0])∧w.heap.size≤g∧Blk w' g 3 (zbp L.length fun i=>((L.take (i+1)).flatten.length:Nat))∧Fr [] w w':=by
 have hn1:=hG.n;have hfl:=hG.flat;have hGs:2+2*L.length+L.flatten.length≤480:=by rw[←hG.size];exact hG.s
 have hlen:=zar L;obtain⟨g,o,ha,hc0,hg⟩:=hb.at_ 0 (by omega);obtain⟨g',o',ha',hc1,_⟩:=hb.at_ 1 (by omega);rw[ha]at ha';injection ha' with ha';injection ha' with e1 e2;subst e1 e2;have q0:(zad L)[0]?.getD 0=L.length:=rfl;have q1:(zad L)[1]?.getD 0=0:=rfl;rw[q0,Nat.add_zero]at hc0;rw[q1]at hc1;subst ha
 have HLd:=hid (fun V (hV:Fr [] w V) k (hk:k<L.length)=>(show Calls prog 159 #[.slice (some ⟨g,o,none⟩) (zad L).length c,.int .i64 (2+2*(k:Int)),.int .i64 2] V fun e w'=>e= .returned (.tuple #[.int .u64 ((L.take (k+1)).flatten.length:Nat),.int .i64 0])∧w'=V from by
  have h1:=zem V _ c _ (hb.fr hV (by simp)) ((2+2*k:Nat):Int) 2
  have hp:zax (zad L).length ((2+2*k:Nat):Int) 2=0:=by
   unfold zax;rw[if_neg (by decide),if_neg (by rw[hlen];omega),if_neg (by omega)]
  unfold ldV at h1;rw[hp,if_pos rfl]at h1;have e:((2+2*k:Nat):Int).toNat=2+2*k:=by omega
  rw[e,show(2:Int).toNat=2 from rfl,zvj hG hk,show((2+2*k:Nat):Int)=2+2*(k:Int)from by push_cast;rfl]at h1;exact h1))
 have HM:=hid (fun k=>zfb L k);have HTL:=hid (show(L.take L.length).flatten.length=L.flatten.length from by rw[List.take_length]);have HCL:=hid (fun V (hV:Fr [] w V)=>And.intro ((hV.cell (p:=⟨g,o,none⟩) hg (by simp)).trans hc0) ((hV.cell (p:=⟨g,o+1,none⟩) hg (by simp)).trans hc1));generalize L.flatten.length=F at*;generalize(zad L).length=z at*;obtain⟨M,hM⟩:∃M:Nat→Nat,(fun k=>(L.take k).flatten.length)=M:=⟨_,rfl⟩;have hM':∀k,(L.take k).flatten.length=M k:=fun k=>by rw[←hM]
 simp only[hM']at HLd HM HTL⊢;generalize L.length=n at*;clear hM hM' hb hG q0 q1;have HMk:=hid (fun V=>zlu (P:=prog) 30 3 underlying30 zg6 .i64 .i64 n (by omega) V);have HSZ:=hid hlen;have b1:decide ((z:Int)<2)=false:=by simp;omega
 have b1':decide (z<2)=false:=by simp;omega
 have b2:((n:Int)==0)=false:=by simp;omega
 have b2':(n==0)=false:=by simp;omega
 have b3:decide ((16:Int)<n)=false:=by simp;omega
 have b3':decide (16<n)=false:=by simp;omega
 have b4:decide ((z:Int)<2+2*n)=false:=by simp;omega
 have b4':decide (z<2+2*n)=false:=by simp;omega
 have hz48:z≤480:=by have:=hGs;omega
 have i0:(0:Int)<z:=by omega
 have i1:(1:Int)<z:=by omega
 have i0':0<z:=by omega
 have i1':1<z:=by omega
 have hN:=hn1.2;have hN1:=hn1.1;have hF:=hfl;clear hlen hn1 hfl;have hm:=HMk.out w;have B0:=hid (Blk.new w 3 (zbp n fun _=>0));have F0:=hid ((Fr.refl [] w).alloc (.cells (zbp n fun _=>0) 3));obtain⟨c0,c1⟩:=HCL.out w (Fr.refl [] w);clear hc0 hc1;go_enter func118,ntmps118;go_wp2_with fail;generalize w.alloc (.cells (zbp n fun _=>0) 3)=w1 at*;clear c0 c1 hm HMk;go_loopg [39] (n+1) (fun gk v39 W=>∃i:Nat,v39= .int .i64 i∧(i+gk=n+1∧i≤n)∧Hid (Blk W w.heap.size 3 (zbp n fun k=>if k<i then(M (k+1):Int)else 0))∧Hid (Fr [] w W));case atStart=>exact⟨0,rfl,by omega,hid (by simpa using B0.out),F0⟩
 case round=>
  clear B0 F0;obtain⟨i,rfl,hi,B2,F2⟩:=hrel;by_cases hlt:i<n
  ·have b6':decide (i<n)=true:=by simp;omega
   have HL:=hid (HLd.out wr F2.out i hlt);have cc:=B2.out.cellF i hlt;have zz:=B2.out.frozen i;have i2:(0:Int)≤i:=by omega
   have i3:(i:Int)<n:=by omega
   have B3:=hid (B2.out.setF (fun k=>if k<i+1 then(M (k+1):Int)else 0) i (M (i+1)) (fun j hj=>by
    by_cases e:j=i
    ·rw[if_pos e,e,if_pos (by omega)]
    ·rw[if_neg e]
     by_cases k:j<i
     ·rw[if_pos k,if_pos (by omega)]
     ·rw[if_neg k,if_neg (by omega)]))
   have F3:=hid (F2.out.setCell (p:=⟨w.heap.size,i,none⟩) (.inr (Nat.le_refl _)) (.int .i64 (M (i+1):Int)));have wm:IntKind.i64.wrap (M (i+1):Int)=(M (i+1):Int):=i64_in _ (by have:=(HM.out (i+1)).2;omega);have wi:=i64_in ((i:Int)+1) (by omega);generalize M (i+1)=m at*;go_wp2_with fail;with_reducible refine HL.out.mono ?_
   rintro e w4 ⟨rfl,rfl⟩;clear HL;go_wp2_with fail;go_roundg (gk-1);case measure=>omega
   case rel=>exact⟨i+1,by go_num,by omega,B3,F3⟩
  ·obtain rfl:i=n:=by omega
   have b6':decide (i<i)=false:=by simp
   have B3:=hid (show Blk wr w.heap.size 3 (zbp i fun k=>(M (k+1):Int))from by
    rw[←zi9 (f:=fun k=>if k<i then(M (k+1):Int)else 0) (k:=fun k=>(M (k+1):Int)) (fun k hk=>if_pos hk)];exact B2.out)
   have HS:=zub wr w.heap.size i _ B3.out (by omega) hN1 (fun k hk=>by have:=(HM.out (k+1)).1;omega);go_wp2_with fail;with_reducible refine HS.mono ?_
   rintro e w4 ⟨rfl,f4⟩;have F4:=hid (F2.out.trans f4);have B4:=hid (B3.out.fr f4 (by simp));have cc:=B4.out.cellF (i-1) (by omega);rw[show i-1+1=i from by omega,HTL.out]at cc;have eL:(z:Int)-2-2*(i:Int)=(F:Int):=by have:=HSZ.out;omega
   have b7:decide ((480:Int)<z)=false:=decide_eq_false (by omega);have b7':decide (480<z)=false:=decide_eq_false (by omega);have x0:(0:Int)≤(i:Int)-1:=by omega
   clear HS B2 B3 F2 f4;go_wp2_with fail;go_ret2;exact⟨w.heap.size,rfl,Nat.le_refl _,B4.out,F4.out⟩
theorem za1{P:Program}{w:World}{ops:Array Oper}{rest:List Oper}{o:Oper}{a:Act}{Q:Exit→Act→World→Prop}(hgd:o.guard=none)
  (s x:Operand) (t:TypeId) (hop:o.op=Op.call {callee:=Callee.builtin Builtin.append,args:= #[s,x],argTypes:= #[t,t]}) (hty:o.type=t)
  (vs vx v':Value) (w':World) (hs:a.eval s=vs) (hx:a.eval x=vx) (hrun:(Builtin.append_ #[t,t] t #[vs,vx]).run P w= .ok v' w')
  (h:wpList P ops Q rest (a.put o.dst v') w'):wpList P ops Q (o::rest) a w:=
 wpList_plain hgd fun K hK=>zky s x t hop hty vs vx v' w' hs hx hrun (hK _ _ h)
theorem zsm(w:World):OwnB (w.alloc (.cells #[] 5)) w.heap.size (.slice (some ⟨w.heap.size,0,none⟩) 0 0) [] :=
 ⟨rfl,.inr ⟨_,0,#[],rfl,Nat.le_refl _,Blk.new _ _ _,Nat.le_refl _,by unfold maxLen;omega,rfl,rfl⟩⟩
theorem zd5{W W':World}{base size n:Nat}{e:TypeId}{v:Value}{xs:List Value}{S:List Nat}(h:W.ownsRow base e size v n xs)(hf:Fr S W W')(hS:∀k∈S,v.ownBlock≠some k):W'.ownsRow base e size v n xs:=by
 obtain⟨h1,⟨h2,h3⟩|⟨g,cap,cur,rfl,hb,hg,r⟩⟩:=h
 ·exact⟨h1,.inl ⟨h2,h3⟩⟩
 ·exact⟨h1,.inr ⟨g,cap,cur,rfl,hb,(hf.block g (Array.getElem?_eq_some_iff.1 hg).1 (fun hm=>hS g hm rfl)).trans hg,r⟩⟩
theorem zh5{W:World}{base size n:Nat}{e:TypeId}{v:Value}{xs:List Value}(h:W.ownsRow base e size v n xs){k:Nat}(hk:k∈ownS v):base≤k∧k<W.heap.size:=by
 obtain⟨h1,⟨rfl,h3⟩|⟨g,cap,cur,rfl,hb,hg,r⟩⟩:=h
 ·cases hk
 ·simp[ownS,Value.ownBlock]at hk
  subst hk;exact⟨hb,Blk.lt hg⟩
theorem zf8{W:World}{base base' size n:Nat}{e:TypeId}{v:Value}{xs:List Value}(h:W.ownsRow base e size v n xs)(hb:base'≤base):W.ownsRow base' e size v n xs:=by
 obtain⟨h1,⟨h2,h3⟩|⟨g,cap,cur,rfl,hg,r⟩⟩:=h
 ·exact⟨h1,.inl ⟨h2,h3⟩⟩
 ·exact⟨h1,.inr ⟨g,cap,cur,rfl,Nat.le_trans hb hg,r⟩⟩
theorem zox{W:World}{b1 b2 s1 s2 n1 n2:Nat}{e1 e2:TypeId}{v1 v2:Value}{xs1 xs2:List Value}(h1:W.ownsRow b1 e1 s1 v1 n1 xs1)(h2:W.ownsRow b2 e2 s2 v2 n2 xs2)(hne:e1≠e2):∀k∈ownS v1,v2.ownBlock≠some k:=by
 intro k hk e;obtain⟨_,⟨rfl,_⟩|⟨g,cap,cur,rfl,hb,hg,r⟩⟩:=h1
 ·cases hk
 ·simp[ownS,Value.ownBlock]at hk
  subst hk;obtain⟨_,⟨rfl,_⟩|⟨g',cap',cur',rfl,hb',hg',r'⟩⟩:=h2
  ·cases e
  ·simp[Value.ownBlock]at e
   subst e;exact Blk.ne_ (t:=e1) (t':=e2) hg hg' hne rfl
theorem za6{W:World}{b s n g:Nat}{e t:TypeId}{v:Value}{xs:List Value}{cs:Array Value}(h:W.ownsRow b e s v n xs)(hb:Blk W g t cs)(hne:e≠t):g∉ownS v:=by
 intro hk;obtain⟨_,⟨rfl,_⟩|⟨g',cap,cur,rfl,_,hg,_⟩⟩:=h
 ·cases hk
 ·simp[ownS,Value.ownBlock]at hk
  subst hk;exact Blk.ne_ (t:=e) (t':=t) hg hb hne rfl
def RecO(w:World)(base:Nat)(v:Value)(L:List (List Nat)):Prop:=
 ∃vs,w.ownsRow base 44 1 v L.length vs∧vs.length=L.length∧ ∀(i:Nat) (x:List Nat),L[i]?=some x→ ∃va,vs[i]?=some va∧OwnB w base va x
theorem RecO.fr{w w':World}{base:Nat}{v:Value}{L:List (List Nat)}{S:List Nat}(h:RecO w base v L)(hf:Fr S w w')(hS:∀k∈S,k<base):RecO w' base v L:=by
 obtain⟨vs,h1,h2,h3⟩:=h
 have hn:∀{u:Value} {e:TypeId} {n:Nat} {xs:List Value},w.ownsRow base e 1 u n xs→∀k∈S,u.ownBlock≠some k:=fun{u e n xs} hu k hk he=>by
  have h4:=hS k hk;have:=(zh5 hu (k:=k) (by unfold ownS;rw[he];simp)).1;omega
 exact⟨vs,zd5 h1 hf (hn h1),h2,fun i x hx=>by
  obtain⟨va,k1,k2⟩:=h3 i x hx;exact⟨va,k1,zd5 k2 hf (hn k2)⟩⟩
theorem RecO.fr0{w w':World}{base:Nat}{v:Value}{L:List (List Nat)}(h:RecO w base v L)(hf:Fr [] w w'):RecO w' base v L:=h.fr hf (fun k hk=>by simp at hk)
theorem RecO.lo{w:World}{base base':Nat}{v:Value}{L:List (List Nat)}(h:RecO w base v L)(hb:base'≤base):RecO w base' v L:=by
 obtain⟨vs,h1,h2,h3⟩:=h
 exact⟨vs,zf8 h1 hb,h2,fun i x hx=>by
  obtain⟨va,k1,k2⟩:=h3 i x hx;exact⟨va,k1,zf8 k2 hb⟩⟩
theorem RecO.recA{w:World}{base:Nat}{v:Value}{L:List (List Nat)}(h:RecO w base v L)(hb:∀x∈L,∀b∈x,b<256)(hl:∀x∈L,x.length≤1099511627776)(hL:L.length≤1048576):∃ad cap,v= .slice ad L.length cap∧RecA (fun k=>base≤k) w ad L:=by
 obtain⟨vs,h1,h2,h3⟩:=h;obtain⟨k1,⟨rfl,k2⟩|⟨g,cap,cur,rfl,kb,kg,kc,km,ks,kt⟩⟩:=h1
 ·exact⟨none,0,by rw[k2],fun i hi=>by omega,by omega⟩
 ·refine⟨_,_,rfl,fun i hi=> ?_,by omega⟩
  obtain⟨va,e1,e2⟩:=h3 i _ (List.getElem?_eq_getElem hi);obtain⟨a,c,rfl,hby,hge⟩:=e2.byt (hb _ (List.getElem_mem hi)) (hl _ (List.getElem_mem hi));refine⟨g,0,a,c,rfl,?_,?_,Blk.lt kg,kb,fun h p e=>hge h p e⟩
  ·rw[Nat.zero_add,Blk.cell kg,List.getElem?_eq_getElem hi]
   have h3:(cur.toList.take (L.length*1))[i]?=vs[i]?:=by rw[kt]
   rw[List.getElem?_take,if_pos (by omega),e1]at h3;rw[Option.getD_some,←h3];simp
  ·rw[List.getElem?_eq_getElem hi]
   exact hby
theorem znk:∃i,prog.info? 44=some i∧i.zero=some (.slice none 0 0)∧i.size=1∧i.bytes=24:=by
 have h:(prog.info? 44).map (fun i=>(i.zero,i.size,i.bytes))=some (some (.slice none 0 0),1,24):=by kernel_rfl
 cases hi:prog.info? 44 with
 |none=>rw[hi]at h;cases h
 |some i=>
  rw[hi]at h;simp at h;exact⟨i,rfl,h.1,h.2.1,h.2.2⟩
theorem zg2(W0:World)(base:Nat)(v:Value)(n:Nat)(vs:List Value)(h:W0.ownsRow base 44 1 v n vs)(ad:Option Addr)(m c:Nat)(hn:n≤1048576)(hb:base≤W0.heap.size):∃v' w',(Builtin.append_ #[34,34] 34 #[v,.slice (some ⟨W0.heap.size,0,none⟩) 1 1]).run prog (W0.alloc (.cells #[.slice ad m c] 44))= .ok v' w'∧w'.ownsRow base 44 1 v' (n+1) (vs++ [.slice ad m c])∧Fr (ownS v) W0 w':=by
 obtain⟨i0,hi,hz0,hz1,hz2⟩:=znk;obtain⟨v',w',hrun,h2,h3,_,h5⟩:=run_append_own_at (P:=prog) (W0.alloc (.cells #[.slice ad m c] 44)) base 34 34 44 i0 (.slice none 0 0) 1 24 underlying34 hi hz0 hz1 hz2 rfl (by decide) v n vs (h.alloc _) ⟨W0.heap.size,0,none⟩ 1 1 [.slice ad m c] (by simp) (zf6 _ _ _) (by simp[Value.oneCell']) (by unfold maxLen;omega) (by omega) (by simp;omega);exact⟨v',w',hrun,h2,zdm h3⟩
theorem RecO.snoc{w w':World}{base:Nat}{v v':Value}{L:List (List Nat)}{vs:List Value}{va:Value}{x:List Nat}(h1:w.ownsRow base 44 1 v L.length vs)(h2:vs.length=L.length)(h3:∀(i:Nat) (x:List Nat),L[i]?=some x→∃va,vs[i]?=some va∧OwnB w base va x)(hx:OwnB w base va x)
  (hn:w'.ownsRow base 44 1 v' (L.length+1) (vs++ [va])) (hf:Fr (ownS v) w w'):RecO w' base v' (L++ [x]):=by
 refine⟨vs++ [va],by rw[List.length_append];exact hn,by simp[h2],fun i y hy=> ?_⟩;have hne:∀{u:Value} {l:List Nat},OwnB w base u l→OwnB w' base u l:=fun{u l} hu=>zd5 hu hf (zox h1 hu (by decide));by_cases hi:i<L.length
 ·rw[List.getElem?_append_left hi]at hy
  obtain⟨vb,k1,k2⟩:=h3 i y hy;exact⟨vb,by rw[List.getElem?_append_left (by omega)];exact k1,hne k2⟩
 ·rw[List.getElem?_append_right (by omega)]at hy
  have hl:=(List.getElem?_eq_some_iff.1 hy).1;simp at hl;have e:i=L.length:=by omega
  subst e;simp at hy;subst hy;exact⟨va,by rw[←h2];simp,hne hx⟩
theorem znh(w:World)(A:Addr)(n c:Nat)(x:List Nat)(hn:x.length=n)(hb:Byt w (some A) x):Calls prog 119 #[.slice (some A) n c] w fun e w'=>∃ad c',e= .returned (.slice ad n c')∧OwnB w' w.heap.size (.slice ad n c') x∧Fr [] w w':=by
 obtain⟨v',w',hrun,h2,h3,h4⟩:=zi7 (w.alloc (.cells #[] 5)) w.heap.size _ [] (zsm w) (some A) c x (hb.fr ((Fr.refl [] w).alloc _) (by simp)) (by have:=hb.len;simp;omega) (by simp);rw[List.nil_append]at h2;obtain⟨a2,c2,rfl,_⟩:=h2.byt hb.byte hb.len;rw[hn]at hrun h2;have F:=hid (show Fr [] w w' from OwnB.fr (zsm w) h3 ((Fr.refl [] w).alloc _) (Nat.le_refl _));have R:=hid h2;clear h2 h3 h4 hb;have hnil:=Lib.run_eql_slice_nil (P:=prog) w 44 5 (some A) n c 0 0 underlying44;go_enter func119,ntmps119;go_wp2_with (first|(at_builtin;refine za1 rfl (.tmp 5) (.tmp 6) 44 rfl rfl _ _ _ _ rfl rfl hrun ?_)|fail);go_ret;exact⟨a2,c2,rfl,R.out,F.out⟩
theorem Byt.part{w:World}{g o:Nat}{l:List Nat}(h:Byt w (some ⟨g,o,none⟩) l)(x n o':Nat)(hn:x+n≤l.length)(ho:0<n→o'=o+x):Byt w (some ⟨g,o',none⟩) ((l.drop x).take n):=by
 have hl:((l.drop x).take n).length=n:=by simp;omega
 refine⟨fun i hi=> ?_,fun b hb=>h.byte b (List.mem_of_mem_drop (List.mem_of_mem_take hb)),by have:=h.len;omega⟩;obtain⟨g',o2,e,hc,hg⟩:=h.at_ (x+i) (by omega);injection e with e;injection e with e1 e2;subst e1 e2;refine⟨g,o',rfl,?_,hg⟩;rw[ho (by omega),show o+x+i=o+(x+i)by omega,hc,List.getElem?_take,if_pos (by omega),List.getElem?_drop]
theorem zcs{L:List (List Nat)}{k:Nat}{x:List Nat}(h:L[k]?=some x):((zad L).drop (2+2*L.length+(L.take k).flatten.length)).take x.length=x:=by
 have hl:((zbs 0 L).flatMap le2).length=2*L.length:=by rw[zde,zch]
 have e0:(zad L).drop (2+2*L.length+(L.take k).flatten.length)=L.flatten.drop (L.take k).flatten.length:=by
  unfold zad;rw[show 2+2*L.length+(L.take k).flatten.length=(2*L.length+(L.take k).flatten.length)+1+1 from by omega,List.drop_succ_cons,List.drop_succ_cons,List.drop_append,hl,List.drop_eq_nil_of_le (by omega),List.nil_append];congr 1;omega
 have e1:L.flatten=(L.take k).flatten++(x++(L.drop (k+1)).flatten):=by
  conv=>lhs;rw[←List.take_append_drop k L,List.flatten_append]
  congr 1;rw[List.drop_eq_getElem_cons (List.getElem?_eq_some_iff.1 h).1,List.flatten_cons,(List.getElem?_eq_some_iff.1 h).2]
 rw[e0];conv=>lhs;rw[e1]
 rw[List.drop_append,List.drop_of_length_le (Nat.le_refl _),Nat.sub_self,List.drop_zero,List.nil_append,List.take_append,List.take_of_length_le (Nat.le_refl _),Nat.sub_self,List.take_zero,List.append_nil]
theorem zfa(w:World)(a:Option Addr)(c:Nat)(L:List (List Nat))(hG:GoodR L)(hb:Byt w a (zad L))(hc:(zad L).length≤c):Calls prog 43 #[.slice a (zad L).length c] w fun e w'=>∃v,e= .returned (.tuple #[v,.int .i64 0])∧RecO w' w.heap.size v L∧Fr [] w w':=by
 have HE:=z1u w a c L hG hb;have hn1:=hG.n;have hfl:=hG.flat;have hlen:=zar L;obtain⟨g,o,rfl,hc0,hg⟩:=hb.at_ 0 (by omega);have HB:=hid hb;obtain⟨n,hn⟩:∃n,L.length=n:=⟨_,rfl⟩;obtain⟨z,hz⟩:∃z,(zad L).length=z:=⟨_,rfl⟩;rw[hn]at HE hn1;rw[hz]at HE hc⊢;obtain⟨M,hM⟩:∃M:Nat→Nat,(fun k=>(L.take k).flatten.length)=M:=⟨_,rfl⟩;have hM':∀k,(L.take k).flatten.length=M k:=fun k=>by rw[←hM]
 have HM:=hid (fun k=>zfb L k);have HP:=hid (fun k x (hx:L[k]?=some x)=>zcs hx);have HTF:=hid (fun k x (hx:L[k]?=some x)=>za0 hx);have HM0:=hid (show M 0=0 from by rw[←hM' 0];rfl);simp only[hM']at HE HM HP;have HN:=hid hn;have HZ:=hid (And.intro hz (And.intro hlen hfl));have HC:=hid hc;have HM':=hid hM';have hn16:=hn1.2;obtain⟨K,hK⟩:∃K,2+2*n=K:=⟨_,rfl⟩
 obtain⟨o1,ho1⟩:∃o1,(if c=K then some (⟨g,o,none⟩:Addr)else some ⟨g,o+K,none⟩)=some ⟨g,o1,none⟩:=by
  by_cases e:c=K
  ·exact⟨o,by rw[if_pos e]⟩
  ·exact⟨o+K,by rw[if_neg e]⟩
 have wa:IntKind.i64.wrap (2*(n:Int))=((2*n:Nat):Int):=by rw[i64_in _ (by omega)];push_cast;rfl
 have wb:IntKind.i64.wrap (2+((2*n:Nat):Int))=(K:Int):=by rw[i64_in _ (by omega)];omega
 have wb':(2:Int)+2*n=(K:Int):=by omega
 have x0:(0:Int)≤K:=by omega
 have x1:(K:Int)≤z:=by omega
 have x2:(K:Int)≤c:=by omega
 have x1':K≤z:=by omega
 have x2':K≤c:=by omega
 have HKK:=hid hK;clear hM hn hz hlen hfl hc hb hc0 hn1 hG hM' hK;go_enter func43,ntmps43;go_wp2_with fail;with_reducible refine HE.mono ?_
 rintro e w2 ⟨ge,rfl,hge,he,f2⟩;have E2:=hid (And.intro hge he);have F2:=hid f2;clear f2 hge he HE;obtain⟨i0,hi0,hz0,hz1,hz2⟩:=znk;obtain⟨w3,hm3,hO3,hg3⟩:=run_make_own (P:=prog) w2 w.heap.size 34 44 i0 (.slice none 0 0) 1 underlying34 hi0 hz0 hz1 .i64 .i64 n (by rw[hz2];omega) (by unfold maxLen;omega) F2.out.size;have F3:=hid (show Fr [] w w3 from F2.out.trans (Fr.of_grown hg3 (fun g e=>by cases e)));have O3:=hid (show RecO w3 w.heap.size (.slice (some ⟨w2.heap.size,0,none⟩) 0 n) (L.take 0)from⟨[],by rw[List.take_zero];exact hO3,by rw[List.take_zero];rfl,fun i x hx=>by rw[List.take_zero]at hx;cases hx⟩);have E3:=hid (And.intro E2.out.1 (E2.out.2.fr (Fr.of_grown hg3 (fun g e=>by cases e):Fr [] w2 w3) (by simp)));clear hO3 hg3 hi0 hz0 hz1 hz2 E2 F2;go_wp2_with fail;go_loopg [7,8,30] (n+1) (fun gk v7 v8 v30 W=>∃i:Nat,v8= .int .i64 (M i:Nat)∧v30= .int .i64 i∧(i+gk=n+1∧i≤n)∧Hid (RecO W w.heap.size v7 (L.take i))∧Hid (Fr [] w W)∧Hid (Blk W ge 3 (zbp n fun i=>(M (i+1):Int))));case atStart=>exact⟨0,by rw[HM0.out];rfl,rfl,by omega,O3,F3,hid E3.out.2⟩
 case round=>
  clear O3 F3 hm3;obtain⟨i,rfl,rfl,hi,O4,F4,E4⟩:=hrel;by_cases hlt:i<n
  ·have b6':decide (i<n)=true:=by simp;omega
   have hL:i<L.length:=by rw[HN.out];exact hlt
   have hgd:L[i]?=some L[i] :=List.getElem?_eq_getElem hL;generalize L[i]'hL=x at*;obtain⟨t1,t2⟩:=HTF.out i x hgd;have hp:=HP.out i x hgd;rw[HN.out,HKK.out]at hp;have hM1:M (i+1)=M i+x.length:=by rw[←HM'.out,t1,List.length_append,HM'.out]
   rw[HM'.out]at t2;obtain⟨z1,z2,z3⟩:=HZ.out;rw[HN.out,HKK.out,z1]at z2;obtain⟨m,hm⟩:∃m,x.length=m:=⟨_,rfl⟩;rw[hm]at hp t2 hM1;have hcz:=HC.out;have cc:=E4.out.cellF i hlt;have hCK:K+(M i+m)≤z:=by omega
   obtain⟨o2,ho2⟩:∃o2,(if c-K=M i then(some ⟨g,o1,none⟩:Option Addr)else some ⟨g,o1+M i,none⟩)=some ⟨g,o2,none⟩:=by
    by_cases e:c-K=M i
    ·exact⟨o1,by rw[if_pos e]⟩
    ·exact⟨o1+M i,by rw[if_neg e]⟩
   have hox:0<m→o2=o+(K+M i):=fun h=>by
    have e1:¬(c=K):=by omega
    have e2:¬(c-K=M i):=by omega
    rw[if_neg e1]at ho1;rw[if_neg e2]at ho2;injection ho1 with ho1;injection ho1 with ho1;injection ho2 with ho2;injection ho2;omega
   have hbx:Byt wr (some ⟨g,o2,none⟩) x:=by
    have:=(HB.out.fr F4.out (by simp)).part (K+M i) m o2 (by rw[z1];omega) hox;rw[hp]at this;exact this
   have HCl:=hid (znh wr ⟨g,o2,none⟩ m (c-K-M i) x hm hbx);have hMi:M (i+1)-M i=m:=by omega
   have y0:(0:Int)≤M i:=by omega
   have y1:(M i:Int)≤M (i+1):=by omega
   have y1':M i≤M (i+1):=by omega
   have y2:(M (i+1):Int)≤(c-K:Nat):=by omega
   have y2':M (i+1)≤c-K:=by omega
   have i2:(0:Int)≤i:=by omega
   have i3:(i:Int)<n:=by omega
   have wi:=i64_in ((i:Int)+1) (by omega);have HT:=hid (show L.take (i+1)=L.take i++ [x]from by rw[List.take_add_one,hgd];rfl);have HTl:=hid (show(L.take i).length=i from by rw[List.length_take];omega);clear hgd hp t1 t2 z1 z2 z3 hm hcz hCK hox hbx hL;have HMM:=hid hM1;obtain⟨m1,hm1⟩:∃m1,M (i+1)=m1:=⟨_,rfl⟩;rw[hm1]at cc hM1 hMi y1 y1' y2 y2';clear hm1;go_wp2_with fail;with_reducible refine HCl.out.mono ?_
   rintro e w5 ⟨ad,c',rfl,hO5,f5⟩;have hO4:=O4.out.fr0 f5;obtain⟨vs,k1,k2,k3⟩:=hO4;rw[HTl.out]at k1 k2;obtain⟨v',w6,hrun,k4,f6⟩:=zg2 w5 w.heap.size u7 i vs k1 ad m c' (by omega) (F4.out.trans f5).size
   have O6:=hid (show RecO w6 w.heap.size v' (L.take (i+1))from by
    rw[HT.out];exact RecO.snoc (by rw[HTl.out];exact k1) (by rw[HTl.out];exact k2) k3 (zf8 hO5 F4.out.size) (by rw[HTl.out];exact k4) f6)
   have F6:=hid ((F4.out.trans f5).step f6 (fun k hk=> .inr (zh5 k1 hk).1));have E6:=hid ((E4.out.fr f5 (by simp)).fr f6 (za6 k1 (E4.out.fr f5 (by simp)) (by decide)));clear hO5 f5 k1 k2 k3 k4 f6 O4 F4 E4 HCl;go_wp2_with (first|(at_builtin;refine za1 rfl (.tmp 34) (.tmp 40) 34 rfl rfl _ _ _ _ rfl rfl hrun ?_)|fail);go_roundg (gk-1);case measure=>omega
   case rel=>exact⟨i+1,by rw[HMM.out];push_cast;rfl,by go_num,by omega,O6,F6,E6⟩
  ·obtain rfl:i=n:=by omega
   have b6':decide (i<i)=false:=by simp
   have O5:=hid (show RecO wr w.heap.size u7 L from by
    have:=O4.out;rw[←HN.out,List.take_length]at this;exact this)
   go_wp2_with fail;go_ret2;exact⟨u7,rfl,O5.out,F4.out⟩
theorem zkc{L:List (List Nat)}{k:Nat}(hk:k<L.length):(zad L)[2+2*k]?.getD 0=(L.take (k+1)).flatten.length %256∧(zad L)[3+2*k]?.getD 0=(L.take (k+1)).flatten.length/256:=by
 have h1:=zjr _ _ _ (by rw[zkt L 0 k hk,Nat.zero_add]);have hl:((zbs 0 L).flatMap le2).length=2*L.length:=by rw[zde,zch]
 unfold zad;rw[show 2+2*k=2*k+1+1 from by omega,show 3+2*k=(2*k+1)+1+1 from by omega];rw[List.getElem?_cons_succ,List.getElem?_cons_succ,List.getElem?_cons_succ,List.getElem?_cons_succ];rw[List.getElem?_append_left (by omega),List.getElem?_append_left (by omega),h1.1,h1.2];exact⟨rfl,rfl⟩
theorem zsh(W0:World)(base:Nat)(v:Value)(l:List Nat)(h:Rw W0 base v l)(x:Nat)(hl:l.length≤1048500)(hb:base≤W0.heap.size):∃v' w',(Builtin.append_ #[30,30] 30 #[v,.slice (some ⟨W0.heap.size,0,none⟩) 1 1]).run prog (W0.alloc (.cells #[.int .i64 x] 3))= .ok v' w'∧Rw w' base v' (l++ [x])∧Fr (ownS v) W0 w':=by
 obtain⟨v',w',hrun,h2,h3⟩:=zk0 (W0.alloc (.cells #[.int .i64 x] 3)) base v l (h.alloc _) (some ⟨W0.heap.size,0,none⟩) 1 [x] (fun j hj=>by
  obtain rfl:j=0:=by simpa using hj
  exact⟨_,0,rfl,zhj W0 _ _⟩) (by simp;omega) (by simp;omega)
 exact⟨v',w',hrun,h2,zdm h3⟩
theorem zu1 (w : World) (a : Option Addr) (c : Nat) (L : List (List Nat)) (hG : GoodR L) (hb : Byt w a (zad L)) (hc : (zad L).length ≤ c) :
    Calls prog 104 #[.slice a (zad L).length c] w fun e w' => ∃ v, e = .returned (.tuple #[v, .int .i64 0]) ∧ RecO w' w.heap.size v L ∧ Fr [] w w' := by
  have hn1 := hG.n
  have hfl := hG.flat
  have hGs : 2 + 2 * L.length + L.flatten.length ≤ 480 := by rw [← hG.size]; exact hG.s
  have hlen := zar L
  obtain ⟨g, o, ha, hc0, hg⟩ := hb.at_ 0 (by omega)
  obtain ⟨g', o', ha', hc1, _⟩ := hb.at_ 1 (by omega)
  rw [ha] at ha'
  injection ha' with ha'
  injection ha' with e1 e2
  subst e1 e2
  have q0 : (zad L)[0]?.getD 0 = L.length := rfl
  have q1 : (zad L)[1]?.getD 0 = 0 := rfl
  rw [q0, Nat.add_zero] at hc0
  rw [q1] at hc1
  subst ha
  have HB := hid hb
  have HE := hid (fun V (hV : Fr [] w V) k (hk : k < L.length) => (show V.cell? ⟨g, o + (2 + 2 * k), none⟩ = some (.int .u8 ((L.take (k + 1)).flatten.length % 256 : Nat)) ∧ V.cell? ⟨g, o + (3 + 2 * k), none⟩ = some (.int .u8 ((L.take (k + 1)).flatten.length / 256 : Nat)) from by
    obtain ⟨g1, o1, e1, h1, _⟩ := hb.at_ (2 + 2 * k) (by omega)
    obtain ⟨g2, o2, e2, h2, _⟩ := hb.at_ (3 + 2 * k) (by omega)
    injection e1 with e1; injection e1 with e1 e1'; subst e1 e1'
    injection e2 with e2; injection e2 with e2 e2'; subst e2 e2'
    rw [(zkc hk).1] at h1
    rw [(zkc hk).2] at h2
    exact ⟨(hV.cell (p := ⟨g, o + (2 + 2 * k), none⟩) hg (by simp)).trans h1, (hV.cell (p := ⟨g, o + (3 + 2 * k), none⟩) hg (by simp)).trans h2⟩))
  obtain ⟨n, hn⟩ : ∃ n, L.length = n := ⟨_, rfl⟩
  obtain ⟨z, hz⟩ : ∃ z, (zad L).length = z := ⟨_, rfl⟩
  rw [hn] at HE hn1 hc0
  rw [hz] at hc ⊢
  obtain ⟨M, hM⟩ : ∃ M : Nat → Nat, (fun k => (L.take k).flatten.length) = M := ⟨_, rfl⟩
  have hM' : ∀ k, (L.take k).flatten.length = M k := fun k => by rw [← hM]
  have HM := hid (fun k => zfb L k)
  have HTL := hid (show (L.take L.length).flatten.length = L.flatten.length from by rw [List.take_length])
  have HP := hid (fun k x (hx : L[k]? = some x) => zcs hx)
  have HTF := hid (fun k x (hx : L[k]? = some x) => za0 hx)
  have HM0 := hid (show M 0 = 0 from by rw [← hM' 0]; rfl)
  simp only [hM'] at HE HM HP HTL
  have HN := hid hn
  have HZ := hid (And.intro hz (And.intro hlen hfl))
  have HC := hid hc
  have HM' := hid hM'
  have HGS := hid hGs
  rw [hn, hz] at hlen
  rw [hn] at hGs HTL
  obtain ⟨F, hF⟩ : ∃ F, L.flatten.length = F := ⟨_, rfl⟩
  rw [hF] at hlen hGs hfl HM HTL
  have HF := hid hF
  have hn16 := hn1.2
  have hn01 := hn1.1
  obtain ⟨K, hK⟩ : ∃ K, 2 + 2 * n = K := ⟨_, rfl⟩
  have b1 : decide ((z : Int) < 2) = false := by simp; omega
  have b1' : decide (z < 2) = false := by simp; omega
  have b2 : ((n : Int) == 0) = false := by simp; omega
  have b2' : (n == 0) = false := by simp; omega
  have b3 : decide ((16 : Int) < n) = false := by simp; omega
  have b3' : decide (16 < n) = false := by simp; omega
  have b4' : decide (z < K) = false := by simp; omega
  have i0 : (0 : Int) < z := by omega
  have i1 : (1 : Int) < z := by omega
  have i0' : 0 < z := by omega
  have i1' : 1 < z := by omega
  have wa : IntKind.i64.wrap (2 * (n : Int)) = ((2 * n : Nat) : Int) := by rw [i64_in _ (by omega)]; push_cast; rfl
  have wb : IntKind.i64.wrap (2 + ((2 * n : Nat) : Int)) = (K : Int) := by rw [i64_in _ (by omega)]; omega
  have wb' : (2 : Int) + 2 * n = (K : Int) := by omega
  have wn : IntKind.i64.wrap (n : Int) = (n : Int) := i64_in _ (by omega)
  have HKK := hid hK
  have HLEN := hid hlen
  clear hM hn hz hb hn1 hG hM' hK hF q0 q1 hlen
  go_enter func104, ntmps104
  go_wp2_with fail
  clear b1 b1' b2 b2' b3 b3' b4' hc0 hc1
  go_loopg [6, 7] (n + 1) (fun gk v6 v7 W => ∃ i : Nat, v7 = .int .i64 i ∧ (i + gk = n + 1 ∧ i ≤ n) ∧ Hid (Rw W w.heap.size v6 ((List.range i).map fun k => M (k + 1))) ∧ Hid (Fr [] w W))
  case atStart => exact ⟨0, rfl, by omega, hid (Rw.nil _ _), hid (Fr.refl _ _)⟩
  case round =>
    obtain ⟨i, rfl, hi, O2, F2⟩ := hrel
    by_cases hlt : i < n
    · have b6' : decide (i < n) = true := by simp; omega
      have hm := (HM.out (i + 1)).2
      obtain ⟨m, hm1⟩ : ∃ m, M (i + 1) = m := ⟨_, rfl⟩
      rw [hm1] at hm
      have ca := fun V (hV : Fr [] w V) => HE.out V hV i hlt
      rw [hm1] at ca
      have HMM := hid hm1
      clear hm1
      have ws1 := i64_in (2 * (i : Int)) (by omega)
      have ws2 : IntKind.i64.wrap (2 + 2 * (i : Int)) = ((2 + 2 * i : Nat) : Int) := by rw [i64_in _ (by omega)]; push_cast; rfl
      have ws3 : IntKind.i64.wrap (3 + 2 * (i : Int)) = ((3 + 2 * i : Nat) : Int) := by rw [i64_in _ (by omega)]; push_cast; rfl
      have wc1 : IntKind.i64.wrap ((m % 256 : Nat) : Int) = ((m % 256 : Nat) : Int) := i64_in _ (by omega)
      have wc2 : IntKind.i64.wrap ((m / 256 : Nat) : Int) = ((m / 256 : Nat) : Int) := i64_in _ (by omega)
      have wc3 : IntKind.i64.wrap (256 * ((m / 256 : Nat) : Int)) = 256 * ((m / 256 : Nat) : Int) := i64_in _ (by omega)
      have wc4 : IntKind.i64.wrap (((m % 256 : Nat) : Int) + 256 * ((m / 256 : Nat) : Int)) = (m : Int) := by rw [i64_in _ (by omega)]; omega
      have hlen := HLEN.out
      obtain ⟨p1, hp1⟩ : ∃ p, 2 + 2 * i = p := ⟨_, rfl⟩
      obtain ⟨p2, hp2⟩ : ∃ p, 3 + 2 * i = p := ⟨_, rfl⟩
      have t1 : (0 : Int) ≤ p1 := by omega
      have t2 : (0 : Int) ≤ p2 := by omega
      have t3 : (p1 : Int) < z := by omega
      have t4 : (p2 : Int) < z := by omega
      rw [hp1] at ws2 ca
      rw [hp2] at ws3 ca
      clear hp1 hp2 hlen
      generalize m % 256 = ml at *
      generalize m / 256 = mh at *
      obtain ⟨ca1, ca2⟩ := ca wr F2.out
      obtain ⟨cd1, cd2⟩ := ca wr.drew F2.out.drew
      obtain ⟨v', w', hrun, hO3, f3⟩ := zsh wr.drew w.heap.size u6 _ (O2.out.fr0 (Fr.refl [] wr).drew) m (by simp; omega) F2.out.size
      have hob := O2.out
      have F3 := hid ((F2.out.trans (Fr.refl [] wr).drew).step f3 (fun k hk => .inr (hob.lt k (zbw hk)).1))
      have HRUN := hid hrun
      have HCF := hid ca
      have O3 := hid hO3
      clear hrun hO3 f3 hob ca O2
      go_wp2_with fail
      refine wp_region_held_drew (S := fun W => W.cell? ⟨g, o + p1, none⟩ = some (.int .u8 ml) ∧ W.cell? ⟨g, o + p2, none⟩ = some (.int .u8 mh)) (by kernel_rfl) (⟨cd1, cd2⟩) (fun yH => ?_)
      refine tkY 0 yH ?_
      refine tkY 1 yH ?_
      refine tkY 2 yH ?_
      refine tkY 3 yH ?_
      refine tkY 4 yH ?_
      refine tkY 5 yH ?_
      refine tkY 6 yH ?_
      refine tkY 7 yH ?_
      refine tkY 8 yH ?_
      refine tkY 9 yH ?_
      refine tkY 10 yH ?_
      refine tkY 11 yH ?_
      refine tkY 12 yH ?_
      refine tkY 13 yH ?_
      refine tkY 14 yH ?_
      refine tkY 15 yH ?_
      refine tkY 16 yH ?_
      refine tkC 17 fun K hK => ?_
      go_simp
      refine hK.out _ _ _ (HCF.out _ (F2.out.drew.alloc _)) fun yH => ?_
      clear hK K
      refine tkC 18 fun K hK => ?_
      refine zky (.tmp 42) (.tmp 59) 30 rfl rfl _ _ _ _ (by simp [Act.eval, Act.put]) (by simp [Act.eval, Act.put]) HRUN.out ?_
      refine hK.out _ _ _ (HCF.out _ F3.out) fun yH => ?_
      clear hK K
      refine tkY 19 yH ?_
      refine wpAnyH_done (by kernel_rfl) ?_ _
      clear cd1 cd2 ca1 ca2 HRUN HCF
      have HR3 := hid (show (List.range i).map (fun k => M (k + 1)) ++ [m] = (List.range (i + 1)).map fun k => M (k + 1) from by rw [List.range_succ, List.map_append, ← HMM.out]; rfl)
      have O4 := hid (show Rw w' w.heap.size v' ((List.range (i + 1)).map fun k => M (k + 1)) from by rw [← HR3.out]; exact O3.out)
      obtain ⟨ad3, cap3, hv3, hr3⟩ := ze3 O4.out
      rw [List.length_map, List.length_range] at hv3
      subst hv3
      obtain ⟨g3, rfl, hg3, hw3⟩ := hr3 (by simp)
      have cj := fun V (hV : Fr [] w' V) j (hj : j < i + 1) => (show V.cell? ⟨g3, j, none⟩ = some (.int .i64 (M (j + 1) : Nat)) from by
        have := (hw3.fr hV (by simp)).cell j (by simp; omega)
        simpa using this)
      clear O3 HR3 hr3 hw3
      have i2 : (0 : Int) ≤ i := by omega
      have i3 : (i : Int) < i + 1 := by omega
      have wi := i64_in ((i : Int) + 1) (by omega)
      have ci := fun V (hV : Fr [] w' V) => cj V hV i (by omega)
      rw [HMM.out] at ci
      have ci1 := ci w' (Fr.refl _ _)
      have hrel2 := hid (show ∃ j : Nat, (Value.int .i64 ((i : Int) + 1)) = .int .i64 j ∧ (j + (gk - 1) = n + 1 ∧ j ≤ n) ∧ Hid (Rw w'.drew w.heap.size (.slice (some ⟨g3, 0, none⟩) (i + 1) cap3) ((List.range j).map fun k => M (k + 1))) ∧ Hid (Fr [] w w'.drew) from ⟨i + 1, by push_cast; rfl, by omega, hid (O4.out.fr0 (Fr.refl [] w').drew), hid F3.out.drew⟩)
      by_cases h0 : i = 0
      · have d0 : decide ((0 : Int) < i) = false := decide_eq_false (by omega)
        have d0' : decide (0 < i) = false := decide_eq_false (by omega)
        clear cj ci ci1
        go_wp2_with fail
        refine wp_region_held_drew (S := fun _ => True) (by kernel_rfl) (trivial) (fun yH => ?_)
        refine tkY 0 yH ?_
        refine tkY 1 yH ?_
        refine tkY 2 yH ?_
        refine tkN 3 yH ?_
        refine tkN 4 yH ?_
        refine tkN 5 yH ?_
        refine tkN 6 yH ?_
        refine tkN 7 yH ?_
        refine tkN 8 yH ?_
        refine tkN 9 yH ?_
        refine tkN 10 yH ?_
        refine tkN 11 yH ?_
        refine tkN 12 yH ?_
        refine tkY 13 yH ?_
        refine wpAnyH_done (by kernel_rfl) ?_ _
        go_wp2_with fail
        go_roundg (gk - 1)
        case measure => omega
        case rel =>
          obtain ⟨j, e, r⟩ := hrel2.out
          exact ⟨j, by rw [← e, h0]; rfl, r⟩
      · have d0 : decide ((0 : Int) < i) = true := decide_eq_true (by omega)
        have d0' : decide (0 < i) = true := decide_eq_true (by omega)
        obtain ⟨j, hj⟩ : ∃ j, i - 1 = j := ⟨_, rfl⟩
        have wj : IntKind.i64.wrap ((i : Int) - 1) = (j : Int) := by rw [i64_in _ (by omega)]; omega
        have j0 : (0 : Int) ≤ j := by omega
        have j1 : (j : Int) < i + 1 := by omega
        have hmj : M (j + 1) ≤ m := by
          have := (HM.out i).1
          have e : j + 1 = i := by omega
          rw [e, ← HMM.out]; exact this
        have cj2 := fun V (hV : Fr [] w' V) => cj V hV j (by omega)
        generalize M (j + 1) = mj at *
        have dm' : decide (m < mj) = false := decide_eq_false (by omega)
        have cdi := ci w'.drew (Fr.refl _ _).drew
        have cdj := cj2 w'.drew (Fr.refl _ _).drew
        clear cj ci ci1 cj2 hmj hj
        go_wp2_with fail
        refine wp_region_held_drew (S := fun W => W.cell? ⟨g3, i, none⟩ = some (.int .i64 m) ∧ W.cell? ⟨g3, j, none⟩ = some (.int .i64 mj)) (by kernel_rfl) (⟨cdi, cdj⟩) (fun yH => ?_)
        refine tkY 0 yH ?_
        refine tkY 1 yH ?_
        refine tkY 2 yH ?_
        refine tkY 3 yH ?_
        refine tkY 4 yH ?_
        refine tkY 5 yH ?_
        refine tkY 6 yH ?_
        refine tkY 7 yH ?_
        refine tkY 8 yH ?_
        refine tkY 9 yH ?_
        refine tkY 10 yH ?_
        refine tkY 11 yH ?_
        refine tkY 12 yH ?_
        refine tkY 13 yH ?_
        refine wpAnyH_done (by kernel_rfl) ?_ _
        go_wp2_with fail
        go_roundg (gk - 1)
        case measure => omega
        case rel => exact hrel2.out
    · obtain rfl : i = n := by omega
      have b6' : decide (i < i) = false := by simp
      obtain ⟨ad3, cap3, hv3, hr3⟩ := ze3 O2.out
      rw [List.length_map, List.length_range] at hv3
      subst hv3
      obtain ⟨g3, rfl, hg3, hw3⟩ := hr3 (by simp; omega)
      have HCJ := hid (fun V (hV : RowI V g3 cap3 ((List.range i).map fun k => M (k + 1))) j (hj : j < i) => (show V.cell? ⟨g3, j, none⟩ = some (.int .i64 (M (j + 1) : Nat)) from by
        have := hV.cell j (by simp; omega)
        simpa using this))
      have HW3 := hid hw3
      have cc := HCJ.out wr hw3 (i - 1) (by omega)
      rw [show i - 1 + 1 = i from by omega, HTL.out] at cc
      obtain ⟨j, hj⟩ : ∃ j, i - 1 = j := ⟨_, rfl⟩
      rw [hj] at cc
      have wj : IntKind.i64.wrap ((i : Int) - 1) = (j : Int) := by rw [i64_in _ (by omega)]; omega
      have j0 : (0 : Int) ≤ j := by omega
      have j1 : (j : Int) < i := by omega
      have eL : IntKind.i64.wrap ((z : Int) - K) = (F : Int) := by have := HLEN.out; rw [i64_in _ (by omega)]; have := HKK.out; omega
      have b7 : decide ((480 : Int) < z) = false := by have := HLEN.out; exact decide_eq_false (by omega)
      have b7' : decide (480 < z) = false := by have := HLEN.out; exact decide_eq_false (by omega)
      have F4 := hid F2.out
      clear hr3 hw3 O2
      go_wp2_with fail
      clear b6' b7 b7' eL wj j0 j1 cc
      generalize wr = w1 at *
      go_loopg [8, 9, 10] (i + 1) (fun gk v8 v9 v10 W => ∃ k : Nat, v9 = .int .i64 (M k : Nat) ∧ v10 = .int .i64 k ∧ (k + gk = i + 1 ∧ k ≤ i) ∧ Hid (RecO W w.heap.size v8 (L.take k)) ∧ Hid (Fr [] w W) ∧ Hid (RowI W g3 cap3 ((List.range i).map fun k => M (k + 1))))
      case atStart => exact ⟨0, by rw [HM0.out]; rfl, rfl, by omega, hid ⟨[], ⟨rfl, .inl ⟨rfl, rfl⟩⟩, rfl, fun i x hx => by cases hx⟩, F4, HW3⟩
      case round =>
        obtain ⟨k, rfl, rfl, hk, O5, F5, W5⟩ := hrel
        by_cases hlt : k < i
        · have b6' : decide (k < i) = true := by simp; omega
          have hL : k < L.length := by rw [HN.out]; exact hlt
          have hgd : L[k]? = some L[k] := List.getElem?_eq_getElem hL
          generalize L[k]'hL = x at *
          obtain ⟨t1, t2⟩ := HTF.out k x hgd
          have hp := HP.out k x hgd
          rw [HN.out, HKK.out] at hp
          have hM1 : M (k + 1) = M k + x.length := by rw [← HM'.out, t1, List.length_append, HM'.out]
          rw [HM'.out] at t2
          obtain ⟨z1, z2, z3⟩ := HZ.out
          rw [HN.out, HKK.out, z1] at z2
          obtain ⟨m, hm⟩ : ∃ m, x.length = m := ⟨_, rfl⟩
          rw [hm] at hp t2 hM1
          have hcz := HC.out
          have cc := HCJ.out wr W5.out k hlt
          obtain ⟨q1, hq1⟩ : ∃ q, K + M k = q := ⟨_, rfl⟩
          obtain ⟨q2, hq2⟩ : ∃ q, K + M (k + 1) = q := ⟨_, rfl⟩
          have hzz : z ≤ 480 := by have := HGS.out; have := HKK.out; rw [HN.out] at *; omega
          have w1q : IntKind.i64.wrap ((K : Int) + M k) = q1 := by rw [i64_in _ (by omega)]; omega
          have w2q : IntKind.i64.wrap ((K : Int) + M (k + 1)) = q2 := by rw [i64_in _ (by omega)]; omega
          have hqm : q2 - q1 = m := by omega
          have y0 : (0 : Int) ≤ q1 := by omega
          have y1 : (q1 : Int) ≤ q2 := by omega
          have y1' : q1 ≤ q2 := by omega
          have y2 : (q2 : Int) ≤ c := by omega
          have y2' : q2 ≤ c := by omega
          obtain ⟨o2, ho2⟩ : ∃ o2, (if c = q1 then (some ⟨g, o, none⟩ : Option Addr) else some ⟨g, o + q1, none⟩) = some ⟨g, o2, none⟩ := by
            by_cases e : c = q1
            · exact ⟨o, by rw [if_pos e]⟩
            · exact ⟨o + q1, by rw [if_neg e]⟩
          have hox : 0 < m → o2 = o + (K + M k) := fun h => by
            have e2 : ¬ (c = q1) := by omega
            rw [if_neg e2] at ho2
            injection ho2 with ho2; injection ho2
            omega
          have hbx : Byt wr (some ⟨g, o2, none⟩) x := by
            have := (HB.out.fr F5.out (by simp)).part (K + M k) m o2 (by rw [z1]; omega) hox
            rw [hp] at this
            exact this
          obtain ⟨vb, w3, hrun1, hB1, hB2, hB3⟩ := zi7 (wr.alloc (.cells #[] 5)) wr.heap.size _ [] (zsm wr) (some ⟨g, o2, none⟩) (c - q1) x (hbx.fr ((Fr.refl [] wr).alloc _) (by simp)) (by have := hbx.len; simp; omega) (by simp)
          rw [List.nil_append] at hB1
          obtain ⟨a2, c2, rfl, _⟩ := hB1.byt hbx.byte hbx.len
          rw [hm] at hrun1 hB1
          have f3 : Fr [] wr w3 := OwnB.fr (zsm wr) hB2 ((Fr.refl [] wr).alloc _) (Nat.le_refl _)
          have i2 : (0 : Int) ≤ k := by omega
          have i3 : (k : Int) < i := by omega
          have wi := i64_in ((k : Int) + 1) (by omega)
          have HT := hid (show L.take (k + 1) = L.take k ++ [x] from by rw [List.take_add_one, hgd]; rfl)
          have HTl := hid (show (L.take k).length = k from by rw [List.length_take]; omega)
          have hO4 := O5.out.fr0 f3
          obtain ⟨vs, k1, k2, k3⟩ := hO4
          rw [HTl.out] at k1 k2
          obtain ⟨v', w6, hrun2, k4, f6⟩ := zg2 w3 w.heap.size u8 k vs k1 a2 m c2 (by omega) (Nat.le_trans F5.out.size f3.size)
          have O6 := hid (show RecO w6 w.heap.size v' (L.take (k + 1)) from by
            rw [HT.out]
            exact RecO.snoc (by rw [HTl.out]; exact k1) (by rw [HTl.out]; exact k2) k3 (zf8 hB1 F5.out.size) (by rw [HTl.out]; exact k4) f6)
          have F6 := hid ((F5.out.trans f3).step f6 (fun k hk => .inr (zh5 k1 hk).1))
          have W6 := hid (show RowI w6 g3 cap3 _ from by
            have r1 := W5.out.fr f3 (by simp)
            obtain ⟨cur, q, _⟩ := id r1
            exact r1.fr f6 (za6 k1 q (by decide)))
          have HRUN1 := hid hrun1
          have HRUN2 := hid hrun2
          have HMM := hid hM1
          have c2f := HCJ.out w6 W6.out k hlt
          obtain ⟨mk, hmk⟩ : ∃ mk, M (k + 1) = mk := ⟨_, rfl⟩
          have ca2 := HCJ.out (wr.alloc (.cells #[] 5)) (W5.out.fr ((Fr.refl [] wr).alloc _) (by simp)) k hlt
          rw [hmk] at cc c2f w2q ca2
          have HMK := hid hmk
          clear hmk
          clear hrun1 hrun2 hM1 hgd hp t1 t2 z1 z2 z3 hm hcz hzz hL hq1 hq2 hox hbx hB1 hB2 hB3 f3 k1 k2 k3 k4 f6 O5 F5 W5
          go_wp2_with (first | (at_builtin; refine za1 rfl (.tmp 106) (.tmp 117) 44 rfl rfl _ _ _ _ rfl rfl HRUN1.out ?_) | (at_builtin; refine za1 rfl (.tmp 105) (.tmp 119) 34 rfl rfl _ _ _ _ rfl rfl HRUN2.out ?_) | fail)
          go_roundg (gk - 1)
          case measure => omega
          case rel => exact ⟨k + 1, by rw [HMK.out], by go_num, by omega, O6, F6, W6⟩
        · obtain rfl : k = i := by omega
          have b6' : decide (k < k) = false := by simp
          have O6 := hid (show RecO wr w.heap.size u8 L from by
            have := O5.out
            rw [← HN.out, List.take_length] at this
            exact this)
          go_wp2_with fail
          go_ret2
          exact ⟨u8, rfl, O6.out, F5.out⟩
theorem RecO.val{w:World}{base:Nat}{v:Value}{L:List (List Nat)}(h:RecO w base v L):∃ad cap,v= .slice ad L.length cap:=by
 obtain⟨vs,⟨k1,⟨rfl,k2⟩|⟨g,cap,cur,rfl,kb,kg,kc,km,ks,kt⟩⟩,_⟩:=h
 ·exact⟨none,0,by rw[k2]⟩
 ·exact⟨_,_,rfl⟩
def nilS:Value:= .slice none 0 0
theorem zrv:(prog.info? 44).map (fun i=>(i.zero,i.size,i.bytes))=some (some (.slice none 0 0),1,24):=by kernel_rfl
theorem zzb(n:Nat):madeCells #[Value.slice none 0 0] n=Array.replicate n (Value.slice none 0 0):=by
 apply Array.ext
 ·simp[madeCells]
 ·intro i h1 h2
  simp[madeCells,Nat.mod_one]
theorem zly(n:Nat)(hn:n≤1048576)(w:World):(Instr.makeSlice 34 (.int .i64 (n:Int)) (.int .i64 (n:Int))).run prog w= .ok (.slice (some ⟨w.heap.size,0,none⟩) n n) (w.alloc (.cells (Array.replicate n (Value.slice none 0 0)) 44)):=by
 rw[←zzb];exact run_make_row' 34 44 (.slice none 0 0) 24 underlying34 zrv rfl .i64 .i64 n (by omega) (by omega) w
theorem zv1(vs:List Value)(m i:Nat)(v:Value)(hi:vs.length=i):(vs++List.replicate (m+1) nilS).set i v=(vs++ [v])++List.replicate m nilS:=by
 rw[List.replicate_succ,List.set_append_right _ _ (by omega),hi,Nat.sub_self,List.set_cons_zero,List.append_assoc];rfl
theorem zr9(w:World)(a:Option Addr)(n c:Nat)(x:List Nat)(hn:x.length=n)(hb:Byt w a x):Calls prog 119 #[.slice a n c] w fun e w'=>∃ad c',e= .returned (.slice ad n c')∧OwnB w' w.heap.size (.slice ad n c') x∧Fr [] w w':=by
 cases a with
 |some A=>exact znh w A n c x hn hb
 |none=>
  have hx:x= [] :=by
   cases x with
   |nil=>rfl
   |cons y t=>
    obtain⟨g,o,e,_⟩:=hb.at_ 0 (by simp);cases e
  subst hx;obtain rfl:n=0:=hn.symm;have hnil:=Lib.run_eql_slice_nil (P:=prog) w 44 5 none 0 c 0 0 underlying44;clear hb;go_enter func119,ntmps119;go_wp2_with fail;go_ret;exact⟨none,0,rfl,OwnB.nil _ _,Fr.refl _ _⟩
theorem zxv{P:Nat→Prop}(w:World)(ad:Option Addr)(cap:Nat)(L:List (List Nat))(h:RecA P w ad L)(hL:L.length≤100000):Calls prog 68 #[.slice ad L.length cap] w fun e w'=>∃v,e= .returned v∧RecO w' w.heap.size v L∧Fr [] w w':=by
 have HA:=hid h;obtain⟨n,hn⟩:∃n,L.length=n:=⟨_,rfl⟩;have HN:=hid hn;rw[hn]at hL⊢;have hm:=zly n (by omega) w;have F0:=hid ((Fr.refl [] w).alloc (.cells (Array.replicate n (Value.slice none 0 0)) 44));have B0:=hid (Blk.new w 44 (Array.replicate n (Value.slice none 0 0)));have n0:(0:Int)≤n:=by omega
 clear h hn;go_enter func68,ntmps68;go_wp2_with fail;generalize w.alloc (.cells (Array.replicate n (Value.slice none 0 0)) 44)=w1 at*;clear hm;go_loopg [11] (n+1) (fun gk v11 W=>∃i:Nat,v11= .int .i64 i∧(i+gk=n+1∧i≤n)∧Hid (Fr [] w W)∧Hid (∃vs,Blk W w.heap.size 44 (vs++List.replicate (n-i) nilS).toArray∧vs.length=i∧∀(k:Nat) (x:List Nat),k<i→L[k]?=some x→∃va,vs[k]?=some va∧OwnB W w.heap.size va x));case atStart=>exact⟨0,rfl,by omega,F0,hid ⟨[],by simpa[nilS]using B0.out,rfl,fun k x hk=>by omega⟩⟩
 case round=>
  clear F0 B0;obtain⟨i,rfl,hi,F2,HV⟩:=hrel;by_cases hlt:i<n
  ·have b6':decide (i<n)=true:=by simp;omega
   have hLl:i<L.length:=by rw[HN.out];exact hlt
   obtain⟨g,o,a,c,rfl,hc,hb,hg,_,_⟩:=(HA.out.fr0 F2.out).at_ i hLl;have hgd:L[i]?=some L[i] :=List.getElem?_eq_getElem hLl;rw[hgd]at hc hb;simp only[Option.getD_some]at hc hb;generalize L[i]'hLl=x at*;have HCl:=hid (zr9 wr a x.length c x rfl hb);have HGD:=hid hgd;generalize hxl:x.length=m at*;have HXL:=hid hxl;have i0:(0:Int)≤i:=by omega
   have i1:(i:Int)<n:=by omega
   have wi:=i64_in ((i:Int)+1) (by omega);clear hb hgd hxl hLl;go_wp2_with fail;with_reducible refine HCl.out.mono ?_
   rintro e w3 ⟨a3,c3,rfl,k3,f3⟩;obtain⟨vs,h1,h2,h3⟩:=HV.out;have h1':=h1.fr f3 (by simp);have cc:=h1'.cell i;have zz:=h1'.frozen i;obtain⟨m2,hm2⟩:∃m2,n-i=m2+1:=⟨n-i-1,by omega⟩;rw[hm2]at cc h1'
   have cc2:w3.cell? ⟨w.heap.size,i,none⟩=some nilS:=by
    rw[cc,List.getElem?_toArray,List.getElem?_append_right (by omega),h2,Nat.sub_self,List.replicate_succ];rfl
   unfold nilS at cc2;have hset:=h1'.set i (.slice a3 m c3);rw[List.setIfInBounds_toArray,zv1 vs m2 i _ h2]at hset;have FF:=(F2.out.trans f3).setCell (p:=⟨w.heap.size,i,none⟩) (.inr (Nat.le_refl _)) (.slice a3 m c3);have fS:Fr [w.heap.size] w3 (w3.setCell ⟨w.heap.size,i,none⟩ (.slice a3 m c3)):=(Fr.refl _ w3).setCell (p:=⟨w.heap.size,i,none⟩) (.inl (by simp)) _
   have hown:∀{u:Value} {y:List Nat},OwnB w3 w.heap.size u y→OwnB (w3.setCell ⟨w.heap.size,i,none⟩ (.slice a3 m c3)) w.heap.size u y:=fun{u y} hu=>zd5 hu fS (fun k hk e=>by
    obtain rfl:=List.mem_singleton.1 hk;exact za6 hu h1' (by decide) (by unfold ownS;rw[e];simp))
   have HV2:=hid (show∃vs,Blk (w3.setCell ⟨w.heap.size,i,none⟩ (.slice a3 m c3)) w.heap.size 44 (vs++List.replicate (n-(i+1)) nilS).toArray∧vs.length=i+1∧∀(k:Nat) (x:List Nat),k<i+1→L[k]?=some x→∃va,vs[k]?=some va∧OwnB (w3.setCell ⟨w.heap.size,i,none⟩ (.slice a3 m c3)) w.heap.size va x from by
    refine⟨vs++ [.slice a3 m c3],by rw[show n-(i+1)=m2 from by omega];exact hset,by simp[h2],fun k y hk hy=> ?_⟩;by_cases e:k<i
    ·obtain⟨va,e1,e2⟩:=h3 k y e hy
     exact⟨va,by rw[List.getElem?_append_left (by omega)];exact e1,hown (zd5 e2 f3 (by simp))⟩
    ·obtain rfl:k=i:=by omega
     rw[HGD.out]at hy;obtain rfl:=Option.some.inj hy;exact⟨_,by rw[←h2];simp,hown (zf8 k3 F2.out.size)⟩)
   have F3:=hid FF;clear h1 h1' h2 h3 k3 f3 cc hset FF fS hown HV F2 HCl;go_wp2_with fail;go_roundg (gk-1);case measure=>omega
   case rel=>exact⟨i+1,by go_num,by omega,F3,HV2⟩
  ·obtain rfl:i=n:=by omega
   have b6':decide (i<i)=false:=by simp
   have HE:=hid (show RecO wr w.heap.size (.slice (some ⟨w.heap.size,0,none⟩) i i) L from by
    obtain⟨vs,h1,h2,h3⟩:=HV.out;rw[Nat.sub_self,List.replicate_zero,List.append_nil]at h1;refine⟨vs,⟨by rw[h2,HN.out,Nat.mul_one],.inr ⟨_,i,_,by rw[HN.out],Nat.le_refl _,h1,by rw[HN.out];exact Nat.le_refl _,by unfold maxLen;omega,by simp[h2],by rw[HN.out,Nat.mul_one];exact List.take_of_length_le (by simp[h2])⟩⟩,by rw[h2,HN.out],fun k x hx=>h3 k x (by rw[←HN.out];exact(List.getElem?_eq_some_iff.1 hx).1) hx⟩)
   clear HV;go_wp2_with fail;go_ret;exact⟨_,rfl,HE.out,F2.out⟩
theorem zqi{P Q:Nat→Prop}(w:World)(a1 a2:Option Addr)(c1 c2:Nat)(L:List (List Nat))(h1:RecA P w a1 L)(h2:RecA Q w a2 L):Calls prog 13 #[.slice a1 L.length c1,.slice a2 L.length c2] w fun e w'=>e= .returned (.bool true)∧Fr [] w w':=by
 have H1:=hid h1;have H2:=hid h2;have hle:=h1.len;obtain⟨n,hn⟩:∃n,L.length=n:=⟨_,rfl⟩;rw[hn]at hle⊢;have HN:=hid hn;clear hn h1 h2;go_enter func13,ntmps13;go_wp2_with fail;go_loopg [5] (n+1) (fun gk v5 W=>∃i:Nat,v5= .int .i64 i∧(i+gk=n+1∧i≤n)∧Hid (Fr [] w W));case atStart=>exact⟨0,rfl,by omega,hid (Fr.refl _ _)⟩
 case round=>
  obtain⟨i,rfl,hi,F3⟩:=hrel;by_cases hlt:i<n
  ·have b6':decide (i<n)=true:=by simp;omega
   have hL:i<L.length:=by rw[HN.out];exact hlt
   obtain⟨g1,o1,x1,k1,rfl,hc1,hb1,_⟩:=(H1.out.fr0 F3.out.drew).at_ i hL;obtain⟨g2,o2,x2,k2,rfl,hc2,hb2,_⟩:=(H2.out.fr0 F3.out.drew).at_ i hL;have hgd:L[i]?=some L[i] :=List.getElem?_eq_getElem hL;rw[hgd]at hc1 hb1 hc2 hb2;simp only[Option.getD_some]at hc1 hb1 hc2 hb2;generalize L[i]'hL=x at*;have hs1:=zc6 wr.drew x1 k1 x hb1;have hs2:=zc6 wr.drew x2 k2 x hb2;generalize zag x=S at*;generalize x.length=m at*;have i0:(0:Int)≤i:=by omega
   have i1:(i:Int)<n:=by omega
   have wi:=i64_in ((i:Int)+1) (by omega);clear hgd hL hb1 hb2;have F4:=hid F3.out.drew;have hY:=And.intro hc1 (And.intro hc2 (And.intro hs1 hs2));clear hc1 hc2 hs1 hs2;go_wp2_with fail;refine wp_region_held_drew (S:=fun W=>W.cell? ⟨g1,o1+i,none⟩=some (.slice x1 m k1)∧W.cell? ⟨g2,o2+i,none⟩=some (.slice x2 m k2)∧(convert 44 9 (.slice x1 m k1)).run prog W= .ok (.string S) W∧(convert 44 9 (.slice x2 m k2)).run prog W= .ok (.string S) W) (by kernel_rfl) (hY) (fun yH=> ?_);refine tkY 0 yH ?_;refine tkY 1 yH ?_;refine tkY 2 yH ?_;refine tkY 3 yH ?_;refine tkY 4 yH ?_;refine tkY 5 yH ?_;refine tkY 6 yH ?_;refine tkY 7 yH ?_;refine tkY 8 yH ?_;refine tkY 9 yH ?_;refine tkY 10 yH ?_;refine wpAnyH_done (by kernel_rfl) ?_ _;go_wp2_with fail;go_roundg (gk-1);case measure=>omega
   case rel=>exact⟨i+1,by go_num,by omega,F4⟩
  ·obtain rfl:i=n:=by omega
   have b6':decide (i<i)=false:=by simp
   go_wp2_with fail;go_ret;exact⟨rfl,F3.out⟩
end Go.Proofs.YtolhkhdbgnciiaaGreatDoor
