/- Several texts in one. -/
import Derived.Shelf.Strings.OnBuilder
import Derived.Test.YtghllbkjghnmhaaGreatDoorEE
import Derived.MakeChecks
import Derived.Lay
namespace Go.Proofs.YtghllbkjghnmhaaGreatDoor
open _root_.Go.Proofs.Tryz
open Go.Lib (hid)
open Go.IntWalk (i64_in)
set_option linter.unusedVariables false
set_option linter.unusedSimpArgs false
open Go.RowKit
set_option maxRecDepth 100000
set_option maxHeartbeats 16000000
section
open Go.Shelf Go.RowKit
def z3j:Go.Shelf.Ren:=⟨fun|156=>250|165=>304|166=>305|169=>306|240=>316|241=>317|276=>321|277=>322|n=>n,fun|0=>0|3=>3|4=>4|5=>5|9=>9|20=>20|31=>31|37=>49|70=>320|72=>322|75=>324|76=>325|80=>327|127=>332|164=>334|n=>n,fun|n=>n⟩
theorem z3k:Go.Proofs.Lays.n156 prog z3j:={
 mixed:=by kernel_rfl
 f156:=func250.trans (congrArg some (by kernel_rfl))
 f165:=func304.trans (congrArg some (by kernel_rfl))
 f166:=func305.trans (congrArg some (by kernel_rfl))
 f169:=func306.trans (congrArg some (by kernel_rfl))
 f240:=func316.trans (congrArg some (by kernel_rfl))
 f241:=func317.trans (congrArg some (by kernel_rfl))
 f276:=func321.trans (congrArg some (by kernel_rfl))
 f277:=func322.trans (congrArg some (by kernel_rfl))
 t0:=underlying0
 a0:=Tryz.isAgg0
 z0:=Tryz.sizeOf0
 v0:=Tryz.zeroValue0
 t3:=underlying3
 a3:=Tryz.isAgg3
 z3:=Tryz.sizeOf3
 v3:=Tryz.zeroValue3
 t4:=underlying4
 a4:=Tryz.isAgg4
 z4:=Tryz.sizeOf4
 v4:=Tryz.zeroValue4
 t9:=underlying9
 a9:=Tryz.isAgg9
 z9:=Tryz.sizeOf9
 v9:=Tryz.zeroValue9
 t20:=underlying20
 a20:=Tryz.isAgg20
 z20:=Tryz.sizeOf20
 v20:=Tryz.zeroValue20
 t31:=underlying31
 a31:=Tryz.isAgg31
 z31:=Tryz.sizeOf31
 v31:=Tryz.zeroValue31
 t37:=underlying49
 a37:=Tryz.isAgg49
 z37:=Tryz.sizeOf49
 v37:=Tryz.zeroValue49
 t70:=underlying320
 a70:=Tryz.isAgg320
 z70:=Tryz.sizeOf320
 v70:=Tryz.zeroValue320
 t72:=underlying322
 a72:=Tryz.isAgg322
 z72:=Tryz.sizeOf322
 v72:=Tryz.zeroValue322
 t75:=underlying324
 a75:=Tryz.isAgg324
 z75:=Tryz.sizeOf324
 v75:=Tryz.zeroValue324
 t76:=underlying325
 a76:=Tryz.isAgg325
 z76:=Tryz.sizeOf325
 v76:=Tryz.zeroValue325
 t127:=underlying332
 a127:=Tryz.isAgg332
 z127:=Tryz.sizeOf332
 v127:=Tryz.zeroValue332
 t164:=underlying334
 a164:=Tryz.isAgg334
 z164:=Tryz.sizeOf334
 v164:=Tryz.zeroValue334}
theorem z3l:Builder.Extra prog z3j:={
 sizeBuilder:=by kernel_rfl
 liesBuilder:=by kernel_rfl
 t5:=underlying5
 a5:=Tryz.isAgg5
 z5:=Tryz.sizeOf5
 v5:=Tryz.zeroValue5
 infoByte:=by kernel_rfl
 cellsByte:=by kernel_rfl
 sizeByte:=by kernel_rfl
 neB5:=by decide}
def z3m:List (List Nat)→List Nat
 | [] => []
 |s::L=>s++(L.map (46:: ·)).flatten
def z3n(L:List (List Nat)):List Nat:=if L= []then[46]else z3m L
theorem z3o:∀(L:List (List Nat)) (n:Nat),L.foldl (fun n s=>n+(s.length+1)) n=n+(L.map (46::·)).flatten.length
 | [],n=>by simp
 |s::L,n=>by
  rw[List.foldl_cons,z3o L];simp only[List.map_cons,List.flatten_cons,List.length_append,List.length_cons];omega
theorem z3p(w:World)(ad:Option Addr)(cap:Nat)(s:List Nat)(L:List (List Nat))(h:StrA w ad (s::L))(hc:(s::L).length≤cap)(hw:zzj (s::L)≤1099511627776)(hl:L.length≤1099511627776):Calls prog 250 #[.slice ad (L.length+1) cap,.string ⟨#[46]⟩] w (zR (.string (za0 (z3m (s::L)))) fun w'=>Fr [] w w'):=by
 obtain⟨bk,o,rfl,_,hbk⟩:=h.at_ 0 (by simp)
 have hcs:∀(j:Nat) x,((s::L).map za0)[j]?=some x→w.cell? ⟨bk,o+j,none⟩=some (.string x):=fun j x hx=>by
  have hj:j<(s::L).length:=by
   rcases Nat.lt_or_ge j (s::L).length with h|h
   ·exact h
   ·rw[List.getElem?_eq_none (by simpa using h)]at hx;cases hx
  obtain⟨g,o',e,h1,_⟩:=h.at_ j hj;injection e with e;injection e with e1 e2;subst e1 e2;rw[h1];rw[List.getElem?_map]at hx;rw[List.getElem?_eq_getElem hj]at hx⊢;simpa using hx
 have hd:∀x:List Nat,(za0 x).data.toList=x.map UInt8.ofNat:=fun x=>by simp[za0]
 have he:Lib.join (((s::L).map za0).map (·.data.toList)) (⟨#[46]⟩:ByteArray).data.toList=(z3m (s::L)).map UInt8.ofNat:=by
  rw[List.map_map,List.map_cons,Lib.join_cons];unfold Lib.joinTail z3m;rw[List.map_append,List.map_flatten,List.map_map,List.map_map];simp only[Function.comp_def,hd,List.map_cons];rfl
 have hlen:=z3o (s::L) 1;have hwi:zzj (s::L)=(s::L).foldl (fun n s=>n+(s.length+1)) 1:=rfl
 have:=Any.strings_Join z3k z3l bk o cap ((s::L).map za0) ⟨#[46]⟩ w hcs hbk (by simp;omega) (by simpa using hc) (by
  rw[he,List.length_map];unfold z3m;simp only[List.map_cons,List.flatten_cons,List.length_append,List.length_cons]at hlen⊢;omega)
 rw[he]at this;simp only[List.length_map,List.length_cons]at this;exact this.mono fun e w' ⟨h1,h2⟩=>⟨by rw[h1];rfl,Fr.of_below h2⟩
theorem z3q(w:World)(ad:Option Addr)(cap:Nat)(L:List (List Nat))(h:StrA w ad L)(hc:L.length≤cap)(hck:chkN L=0):Calls prog 140 #[.slice ad L.length cap] w (zR (.tuple #[.string (za0 (z3n L)),(0:Int)]) fun w'=>Fr [] w w'):=by
 have hwi:zzj L≤255:=by
  unfold chkN at hck;split at hck
  ·split at hck
   ·cases hck
   ·omega
  ·cases hck
 have HC:=hid (show Calls prog 217 #[.slice ad L.length cap] w (zN (chkN L) w)from zzp w ad cap L h (by omega));rw[hck]at HC
 have hll:L.length≤1099511627776:=by
  have:=z3o L 1;have h1:zzj L=L.foldl (fun n s=>n+(s.length+1)) 1:=rfl
  have h2:∀L:List (List Nat),L.length≤(L.map (46::·)).flatten.length:=fun L=>by
   induction L with
   |nil=>simp
   |cons s L ih=>simp only[List.map_cons,List.flatten_cons,List.length_append,List.length_cons];omega
  have:=h2 L;omega
 cases L with
 |nil=>
  rw[List.length_nil]at HC⊢;clear h hc hck hwi hll;go_in;go_wp2_with fail;go_call HC.out as e w1 ⟨rfl,f1⟩;clear HC;go_wp2;go_ret2;exact⟨rfl,f1⟩
 |cons s L=>
  have HJ:=hid (fun V (hV:Fr [] w V)=>z3p V ad cap s L (h.fr hV) hc (by omega) (by simp at hll;omega));have ht:z3n (s::L)=z3m (s::L):=rfl;rw[ht];generalize za0 (z3m (s::L))=S at*;rw[List.length_cons]at HC hll⊢;have b0:(((L.length+1:Nat):Int)==0)=false:=by simp;omega
  have b0':((L.length+1)==0)=false:=by simp
  generalize L.length+1=n at*;clear h hc hck hwi ht;go_in;go_wp2_with fail;go_call HC.out as e w1 ⟨rfl,f1⟩;clear HC;go_wp2_with fail;go_call HJ.out _ f1 as e w2 ⟨rfl,f2⟩;have F2:=f1.trans f2;clear f2;go_wp2;go_ret2;exact⟨rfl,F2⟩
section
variable{w0 w:World}{q:MH}{u0:EW}{x fr:Nat}{l:List Nat}{par own:Nat→Nat}{nm:Nat→List (List Nat)}
theorem z3r(h:CP w0 q u0 l par own nm fr w)(hx:x=0∨x∈l)(hck:chkN (nm x)=0):Calls prog 62 #[q,x] w (zR (.tuple #[.string (za0 (z3n (nm x))),(0:Int)]) fun w'=>CP w0 q u0 l par own nm fr w'∧Fr q.blocks w w'):=by
 have HN:=hid (z0e h hx);have HT:=hid (fun V ad (hA:StrA V ad (nm x))=>z3q V ad (nm x).length (nm x) hA (Nat.le_refl _) hck);generalize za0 (z3n (nm x))=S at*;generalize nm x=L at*;clear h hx hck;go_in;go_wp2_with fail;go_call HN.out as e w1 ⟨ad,rfl,h1,-,h2,h3⟩;have H2:=hid (And.intro h2 h3);have hT:=HT.out _ _ h1;clear h1 h2 h3 HN HT;go_wp2_with fail;go_call hT as e w2 ⟨rfl,f2⟩;clear hT;go_wp2;go_ret2;exact⟨rfl,H2.1.fr0 f2,H2.2.trans f2.nil⟩
end
end
theorem z3s{P Q:Nat→Prop}(w:World)(S:ByteArray)(ty en:Nat)(us:Bool)(a1 a2:Option Addr)(c1 c2:Nat)(L:List (List Nat))(h1:RecA P w a1 L)(h2:RecA Q w a2 L):Calls prog 39 #[.agg #[.string S,.int .u16 ty,.slice a1 L.length c1,.int .u64 en,us],.agg #[.string S,.int .u16 ty,.slice a2 L.length c2,.int .u64 en,us]] w (zN true w):=by
 have HS:=hid (fun V (hV:Fr [] w V)=>zrw V a1 a2 c1 c2 L (h1.fr0 hV) (h2.fr0 hV));clear h1 h2;generalize L.length=n at*;have F0:=((Fr.refl [] w).alloc (.cells #[.string S,.int .u16 ty,.slice a1 n c1,.int .u64 en,us] 55)).alloc;have B1:=(Blk.new w 55 #[.string S,.int .u16 ty,.slice a1 n c1,.int .u64 en,.bool us]).alloc;have B2:=Blk.new (w.alloc (.cells #[.string S,.int .u16 ty,.slice a1 n c1,.int .u64 en,us] 55)) 55 #[.string S,.int .u16 ty,.slice a2 n c2,.int .u64 en,.bool us];rw[World.size_alloc]at B2;go_in;go_wp2_with fail;go_call HS.out _ (F0 _) as e w1 ⟨rfl,f1⟩;have d1:=((B1 _).fr f1 (by simp)).cell;have d2:=(B2.fr f1 (by simp)).cell;have F1:=(F0 _).trans f1;clear f1 HS F0 B1 B2;go_wp2;go_ret;exact⟨rfl,F1⟩
theorem z3t(a b:List Nat):za0 a++za0 b=za0 (a++b):=by
 unfold za0;apply ByteArray.ext;simp
theorem z3u(s:List Nat)(L:List (List Nat))(x:List Nat):z3m (s::(L++ [x]))=z3m (s::L)++(46::x):=by
 unfold z3m;simp
theorem z3v(w:World)(ad:Option Addr)(cap:Nat)(L:List (List Nat))(h:StrA w ad L)(hck:chkN L=0):Calls prog 94 #[.slice ad L.length cap] w (zR (.tuple #[.string (za0 (z3n L)),(0:Int)]) fun w'=>Fr [] w w'):=by
 have hwi:zzj L≤255:=by
  unfold chkN at hck;split at hck
  ·split at hck
   ·cases hck
   ·omega
  ·cases hck
 have HC:=hid (z1o w ad cap L h (by omega));rw[hck]at HC;cases L with
 |nil=>
  rw[List.length_nil]at HC⊢;clear h hck hwi;go_in;go_wp2_with fail;go_call HC.out as e w1 ⟨rfl,rfl⟩;clear HC;go_wp2;go_ret2;exact⟨rfl,Fr.refl _ _⟩
 |cons s L=>
  have hll:L.length≤255:=by
   have:=z3o (s::L) 1;have h1:zzj (s::L)=(s::L).foldl (fun n s=>n+(s.length+1)) 1:=rfl
   have h2:∀L:List (List Nat),L.length≤(L.map (46::·)).flatten.length:=fun L=>by
    induction L with
    |nil=>simp
    |cons s L ih=>simp only[List.map_cons,List.flatten_cons,List.length_append,List.length_cons];omega
   have h3:=h2 (s::L);simp only[List.length_cons]at h3;omega
  obtain⟨bk,o,rfl,hb0,hbk⟩:=h.at_ 0 (by simp);have ht:z3n (s::L)=z3m (s::L):=rfl;rw[ht]
  have hb0':w.cell? ⟨bk,o,none⟩=some (.string (za0 (z3m (s::L.take 0)))):=by
   rw[Nat.add_zero]at hb0;rw[hb0];simp[z3m]
  obtain⟨T,hT⟩:∃T:Nat→ByteArray,(fun k=>za0 (z3m (s::L.take k)))=T:=⟨_,rfl⟩;have hT':∀k,za0 (z3m (s::L.take k))=T k:=fun k=>by rw[←hT]
  have HTs:=hid (show∀k x,L[k]?=some x→T k++⟨#[46]⟩++za0 x=T (k+1)from fun k x hx=>by
   rw[←hT' k,←hT' (k+1),List.take_add_one,hx,Option.toList_some,z3u,show(⟨#[46]⟩:ByteArray)=za0 [46]from rfl,z3t,z3t,List.append_assoc];rfl)
  have hjl:=z3o (s::L) 1;have hwe:zzj (s::L)=(s::L).foldl (fun n s=>n+(s.length+1)) 1:=rfl;have hso:∀l:List Nat,(za0 l).size=l.length:=fun l=>by simp[za0,ByteArray.size]
  have hal:(s::L).all zuz=true:=by
   unfold chkN at hck;split at hck
   ·assumption
   ·cases hck
  have HZT:=hid (show∀k,(T k).size≤300 from fun k=>by
   rw[←hT' k,hso];unfold z3m
   have h1:(L.map (46::·)).flatten.length=((L.take k).map (46::·)).flatten.length+((L.drop k).map (46::·)).flatten.length:=by
    rw[←List.length_append,←List.flatten_append,←List.map_append,List.take_append_drop]
   simp only[List.map_cons,List.flatten_cons,List.length_append,List.length_cons]at hjl⊢;omega)
  have HZX:=hid (show∀x∈L,(za0 x).size≤300 from fun x hx=>by
   rw[hso];have:=(zwy (List.all_eq_true.1 hal x (List.mem_cons_of_mem _ hx))).2;omega)
  have hTn:za0 (z3m (s::L))=T L.length:=by rw[←hT',List.take_length]
  rw[hTn];rw[hT']at hb0';rw[List.length_cons]at HC⊢;obtain⟨n,hn⟩:∃n,L.length=n:=⟨_,rfl⟩;have HN:=hid hn;rw[hn]at HC hll⊢;have b0:(((n:Int)+1)==0)=false:=by simp;omega
  have b0':((n+1)==0)=false:=by simp
  clear hck hwi ht hT hT' hTn hb0 hn hjl hwe hso hal;go_in;go_wp2_with fail;go_call HC.out as e w1 ⟨rfl,rfl⟩;clear HC;go_wp2;go_loopg [5,6] (n+1) (fun gk v5 v6 W=>∃i:Nat,v5= .string (T i)∧v6= .int .i64 ((i:Int)+1)∧(i+gk=n+1∧i≤n)∧w1=W);case atStart=>exact⟨0,rfl,rfl,by omega,rfl⟩
  case round=>
   obtain⟨i,rfl,rfl,hi,rfl⟩:=hrel;by_cases hlt:i<n
   ·have b6':=dT (i+1<n+1)
    have hL:i<L.length:=by rw[HN.out];exact hlt
    have hgd:L[i]?=some L[i] :=List.getElem?_eq_getElem hL;obtain⟨g,o',e1,hc,-⟩:=h.at_ (i+1) (by simp;omega);injection e1 with e1;injection e1 with e1 e2;subst e1 e2;rw[List.getElem?_cons_succ,hgd,Option.getD_some]at hc;have hs:=HTs.out i _ hgd;have hz1:=HZT.out i;have hz2:=HZX.out _ (List.getElem_mem hL);generalize za0 (L[i]'hL)=X at*;have hz3:(T i++⟨#[46]⟩).size=(T i).size+1:=by rw[ByteArray.size_append];rfl
    have hz4:¬(9223372036854775807<((T i).size:Int)+1):=by omega
    have hz5:¬(9223372036854775807<((T i).size:Int)+1+X.size):=by omega
    have i0:(0:Int)≤(i:Int)+1:=by omega
    have i1:(i:Int)+1<(n:Int)+1:=by omega
    have wi:IntKind.i64.wrap ((i:Int)+1+1)=((i+1:Nat):Int)+1:=by rw[i6 _];push_cast;rfl
    have HX:=hid hs;clear hgd hL hs;go_wp2;go_roundg (gk-1);case measure=>omega
    case rel=>exact⟨i+1,by rw[←HX.out],by go_num,by omega,rfl⟩
   ·obtain rfl:i=n:=by omega
    go_wp2;go_ret2;exact⟨rfl,Fr.refl _ _⟩
section
variable{w w' W:World}{p pn pr b x:Nat}{D R l A C:List Nat}{Es:List ED}{par own:Nat→Nat}{nm:Nat→List (List Nat)}{vE vN:Value}{ad:Option Addr}{cap:Nat}
theorem IsE.cut{g cap n:Nat}(h:IsE W p (.slice (some ⟨g,0,none⟩) n cap) pn pr Es){i:Nat}(hlt:i<Es.length)(hl:Es.length≤100000)(hln:Es.length=n):∃v1 w1 v2 w2,(Builtin.append_ #[72,72] 72 #[.slice (some ⟨W.heap.size,0,none⟩) 0 0,.slice (some ⟨g,0,none⟩) i cap]).run prog (W.alloc (.cells #[] 82)).drew= .ok v1 w1
   ∧(Builtin.append_ #[72,72] 72 #[v1,.slice (if cap-(i+1)=0 then some ⟨g,0,none⟩else some ⟨g,(i+1)*6,none⟩) (n-(i+1)) (cap-(i+1))]).run prog w1= .ok v2 w2
   ∧(W.alloc (.cells #[] 82)).drew.cell? ⟨p,0,none⟩=some (.slice (some ⟨g,0,none⟩) n cap)∧w1.cell? ⟨p,0,none⟩=some (.slice (some ⟨g,0,none⟩) n cap)∧w2.cell? ⟨p,0,none⟩=some (.slice (some ⟨g,0,none⟩) n cap)∧w2.frozen? ⟨p,0,none⟩=false
   ∧IsE (w2.setCell ⟨p,0,none⟩ v2) p v2 pn pr (cutE Es i)∧Fr [p] W (w2.setCell ⟨p,0,none⟩ v2)∧ ∀k∈ownS v2,W.heap.size≤k:=by
 obtain⟨ad',cap',e,hrw⟩:=h.row
 obtain⟨g',e',hpg,hr⟩:=hrw (by omega)
 rw[e']at e
 injection e with e e2 e3
 injection e with e
 injection e with e
 subst e e3
 obtain⟨v1,w1,v2,w2,e1,e2,o,f⟩:=z2a hr (k:=i) hlt (by omega)
 rw[hln]at e2
 have hp:=h.st.lt
 have f2:Fr [p] w2 (w2.setCell ⟨p,0,none⟩ v2):=(Fr.refl [p] w2).setCell (p:=⟨p,0,none⟩) (.inl (by simp)) _
 have c0:=h.st.cell 0
 simp at c0
 have fa:Fr [] W (W.alloc (.cells #[] 82)).drew:=((Fr.refl [] W).alloc _).drew
 have f1:Fr [] W w1:=by
  have hO0:Rke (W.alloc (.cells #[] 82)).drew W.heap.size (.slice (some ⟨W.heap.size,0,none⟩) 0 0) [] :=z19 W
  obtain⟨v1',w1',e1',hO1,g1,_⟩:=z18 _ _ _ [] hO0 (some ⟨g,0,none⟩) cap (Es.take i) (fun _=>⟨g,0,rfl,fun j hj k hk=>by
   rw[List.length_take]at hj
   have:=(hr.fr fa (by simp)).cell j (by omega) k hk
   rw[Nat.zero_add,this,List.getElem_take]⟩) (by simp;omega) fa.size
  rw[List.length_take,Nat.min_eq_left (by omega)]at e1'
  rw[e1']at e1
  injection e1 with _ e1
  subst e1
  exact hO0.grow g1 fa (Nat.le_refl _)
 refine⟨v1,w1,v2,w2,e1,e2,(fa.cell (p:=⟨p,0,none⟩) hp (by simp)).trans c0,(f1.cell (p:=⟨p,0,none⟩) hp (by simp)).trans c0,(f.cell (p:=⟨p,0,none⟩) hp (by simp)).trans c0,(h.st.fr f (by simp)).frozen 0,⟨?_,?_⟩,f.nil.trans f2,fun k hk=>(o.lt k (zhv hk)).1⟩
 ·exact(h.st.fr f (by simp)).set 0 v2
 ·exact(o.fr f2 (fun k hk e=>by
   simp at hk
   subst hk
   have:=(o.lt _ e).1
   omega)).lo (by omega)
theorem z3w(h:DE w p pn pr D Es R b l par own nm)(hl:Es.length≤1000)(hx:∀d∈Es,d.y≠x):Calls prog 27 #[some p,x] w (zE (.tuple #[(0:Int),(30:Int)]) w):=by
 obtain⟨vE,vN,ad,cap,h⟩:=h;have hat:=xeat h.e (by omega) x;have HX:=hid hx;clear h hl hx;go_in;go_wp2_with fail;go_call hat as e w1 ⟨⟨i,d,rfl,hd,hy⟩|⟨rfl,hno⟩,rfl⟩
 ·exact absurd hy (HX.out d (List.mem_of_getElem? hd))
 ·clear hno hat
  go_wp2;go_ret2;exact⟨rfl,rfl⟩
def RmD(w:World)(p pn pr:Nat)(D:List Nat)(Es:List ED)(R':List Nat)(b':Nat)(l:List Nat)(par own:Nat→Nat)(nm:Nat→List (List Nat))(x:Nat)(e:Ending)(w':World):Prop:=
 ∃(i:Nat) (d:ED) (n:Nat) (l1:List Nat) (own1:Nat→Nat) (D':List Nat),Es[i]?=some d∧d.y=x∧e= .returned (.tuple #[(n:Nat),(0:Int)])∧Nd D w D' w'∧DE w' p pn pr D' (cutE Es i) R' b' l1 par own1 nm∧
  ((d.p=0∧n=0∧l1=l∧own1=own)∨(d.p≠0∧own1=up own d.p (own d.p-1)∧Rem own1 par l l1∧n+l1.length=l.length∧Firm own1 par l1))
theorem z3x(h:DE w p pn pr D Es (A++x::C) b l par own nm)(dn:DN l par own nm)(hl:Es.length≤1000)(hlr:(A++x::C).length≤1000)(hnr:(A++x::C).Nodup)(hx:∃d∈Es,d.y=x)(hp:∀d∈Es,d.p=0∨d.p∈l∧1≤own d.p)(ho2:∀y,own y≤900000000):Calls prog 27 #[some p,x] w (RmD w p pn pr D Es (A++C) (remB A C b x) l par own nm x):=by
 obtain⟨vE,vN,ad,cap,h⟩:=h;have hat:=xeat h.e (by omega) x;have HX:=hid (And.intro hx hp);have HR:=hid (fun V (hV:IsG V pr ad cap (A++x::C) b)=>ztq hV hnr (by omega));have HLn:=hid hl;have hst:=h.e.st.cell 0;have hst2:=h.e.st.cell 2;simp only[gE]at hst hst2;clear hlr hnr hx hp;go_in;go_wp2_with fail;go_call hat as e w1 ⟨⟨i,d,rfl,hd,hy⟩|⟨rfl,hno⟩,rfl⟩
 ·obtain⟨adE,capE,rfl,hrw⟩:=h.e.row
  have hlt:=(List.getElem?_eq_some_iff.1 hd).1;obtain⟨g,rfl,hpg,hr⟩:=hrw (by omega);obtain⟨y0,y1,y2,y3,y4,y5⟩:=hr.six hd;have hcap:=hr.le;have hpd:=HX.2 d (List.mem_of_getElem? hd);have hmd:=hid (And.intro hd hy);obtain⟨dy,dp,dty,den,dad,dm,dcp,dus⟩:=d;simp only at y0 y1 y2 y3 y4 y5 hpd hy;have HPd:=hid hpd;obtain⟨n,hn⟩:∃n,Es.length=n:=⟨_,rfl⟩;have HNl:=hid hn;rw[hn]at hst hlt hcap;have hl2:=HLn.out;rw[hn]at hl2;have b0:=dF ((i:Int)<0);have i0:(0:Int)≤i:=by omega
  have i1:(i:Int)<n:=by omega
  have HW:=show∀o,DV (w1.alloc o) p pn pr D Es (A++x::C) b l par own nm (.slice (some ⟨g,0,none⟩) n capE) vN ad cap from fun o=>by have:=h.fr0 ((Fr.refl [] w1).alloc o);rwa[hn]at this
  have B7:=Blk.new w1 82 #[.int .i64 dy,.int .i64 dp,.int .u16 dty,.int .u64 den,.slice dad dm dcp,.bool dus];have hplt:p<w1.heap.size∧pr<w1.heap.size∧pn<w1.heap.size:=⟨h.lt _ ((h.mem _).2 (.inl rfl)),h.lt _ ((h.mem _).2 (.inr (.inr (.inl rfl)))),h.lt _ ((h.mem _).2 (.inr (.inl rfl)))⟩;have HPL:=hid hplt;have hst2':=(HW (.cells #[dy,dp,.int .u16 dty,.int .u64 den,.slice dad dm dcp,dus] 82)).e.st.cell 2;simp only[gE]at hst2'
  have HB7:=hid (show w1.heap.size∉pn::ownS vN from fun hm=>by
   rcases List.mem_cons.1 hm with e|e
   ·have:=HPL.2.2;omega
   ·exact absurd (h.lt _ ((h.mem _).2 (.inr (.inr (.inr (.inr (.inl e))))))) (Nat.lt_irrefl _))
  clear hr hrw hd hpd hn hy hat hpg hplt;go_wp2_with fail;go_call HR.out _ (HW _).g as e w3 ⟨rfl,h3,f3⟩;obtain⟨D3,ad3,cap3,d3,n3⟩:=(HW _).ring h3 f3;have B3:=B7.fr f3 (by have:=HPL.out;simp;omega);have N3:=(Nd.of0 ((Fr.refl [] w1).alloc _)).trans n3;obtain⟨v1,wa,v2,wb,e1,e2,ca,cb,cc,zc,hE4,hF4,ho4⟩:=d3.e.cut (i:=i) (by rw[HNl.out];exact hlt) (by rw[HNl.out];omega) HNl.out
  obtain⟨ad4,cap4,hv2⟩:∃ad4 cap4,v2= .slice ad4 (cutE Es i).length cap4:=by
   obtain⟨ad4,cap4,e,-⟩:=hE4.row;exact⟨ad4,cap4,e⟩
  subst hv2;have hstW:=d3.e.st.cell 0;simp only[List.getElem?_toArray,List.getElem?_cons_zero]at hstW;have hs3:w1.heap.size<w3.heap.size:=Nat.lt_of_lt_of_le (by rw[World.size_alloc];omega) f3.size;obtain⟨D4,d4,n4⟩:=d3.ents hE4 (hF4.mono (fun k hk=> .inl (by simp at hk;simp[hk]))) (fun k hk=> .inr (ho4 k hk));have B4:=B3.fr hF4 (by have:=HPL.out;simp;omega);have N4:=N3.trans n4;have HE1:=hid e1;have HE2:=hid e2;have q1:=B4.cell 1;have q2:=d4.e.st.cell 1;simp only[gE]at q1 q2;have g2:(i:Int)≤capE:=by omega
  have g3:(i:Int)+1≤n:=by omega
  have g5:=i6 ((i:Int)+1);have g6:(0:Int)≤(i:Int)+1:=by omega
  have g8:((i:Int)+1).toNat=i+1:=by omega
  clear e1 e2 hE4 hF4 ho4 d3 n3 n4 f3 h3 B7 y0 y1 y2 y3 y4 y5 hst hst2 hst2' b0 hs3 HW h;generalize hc2:(if capE-(i+1)=0 then(some ⟨g,0,none⟩:Option Addr)else some ⟨g,(i+1)*6,none⟩)=ad2 at*
  have hc3:(if capE=i+1 then(some ⟨g,0,none⟩:Option Addr)else some ⟨g,(i+1)*6,none⟩)=ad2:=by
   rw[←hc2];by_cases e:capE=i+1
   ·rw[if_pos e,if_pos (by omega)]
   ·rw[if_neg e,if_neg (by omega)]
  generalize(cutE Es i).length=n4 at*;generalize w1.heap.size=b7 at*;go_wp2_with fail;apply z1h
  ·intro key
   go_region_law (first|(refine z1g rfl (.tmp 29) (.tmp 35) 72 rfl rfl _ _ _ _ (by simp[Act.eval,Act.put]) (by simp[Act.eval,Act.put]) HE1.out ?_)|(refine z1g rfl (.tmp 36) (.tmp 43) 72 rfl rfl _ _ _ _ (by simp[Act.eval,Act.put]) (by simp[Act.eval,Act.put,hc3]) HE2.out ?_));all_goals exact key
  ·clear hc2 hc3 HE1 HE2 ca cb cc zc hstW
   try simp only[gP,List.getElem_cons_zero]
   generalize wb.setCell ⟨p,0,none⟩ (.slice ad4 n4 cap4)=W4 at*;by_cases h0:dp=0
   ·have b1:((dp:Int)==0)=true:=by simp;omega
    have b1':(dp==0)=true:=by simp;omega
    have H0:=hid h0;clear h0;go_wp2;go_ret2;exact⟨i,_,0,l,own,D4,hmd.1,hmd.2,rfl,N4,⟨_,_,_,_,d4⟩,.inl ⟨H0.out,rfl,rfl,rfl⟩⟩
   ·have b1:((dp:Int)==0)=false:=by simp;omega
    have b1':(dp==0)=false:=by simp;omega
    have hpd:=HPd.resolve_left h0;obtain⟨k,hk⟩:∃k,own dp=k+1:=⟨own dp-1,by omega⟩;have HLt:=hid (fun V (hV:DD V pn vN l par own nm)=>z1r hV dn hpd.1 k hk ho2);have HK:=hid (And.intro h0 (show up own dp k=up own dp (own dp-1)from by rw[hk];rfl));have E4:=d4.fr0 (Fr.refl [] W4).drew;have BW:=B4.drew;clear h0 hpd hk;go_wp2_with fail;have hY:=And.intro q2 q1;refine wp_region_held_drew (S:=fun W=>W.cell? ⟨p,1,none⟩=some (some pn:Value)∧W.cell? ⟨b7,1,none⟩=some (.int .i64 dp)) (by kernel_rfl) (hY) (fun yH=> ?_);refine tkZ 0 ?_;refine tkZ 1 ?_;refine tkZ 2 ?_;refine tkZ 3 ?_;refine tkZ 4 ?_;refine tkZ 5 ?_;refine tkC 6 fun K hK=> ?_;go_simp;go_call HLt.out _ E4.n as e w6 ⟨nn,l1,vN',rfl,hD6,hR6,hn6,hF6,hx6⟩;obtain⟨D6,d6,n6⟩:=E4.nodes hx6 hD6;have D6':=hid (And.intro d6 (And.intro (N4.trans ((Nd.of0 (Fr.refl [] W4).drew).trans n6)) (And.intro hR6 (And.intro hn6 hF6))));have hY:=And.intro (d6.e.st.cell 1) ((BW.fr hx6.f HB7.out).cell 1);simp only[gE]at hY;clear hD6 hR6 hn6 hF6 hx6 d6 n6;go_wp2_with fail;refine hK.out _ _ _ hY fun yH=> ?_;clear hK K;refine tkZ 7 ?_;refine tkZ 8 ?_;refine tkZ 9 ?_;refine tkZ 10 ?_;refine tkZ 11 ?_;refine wpAnyH_done (by kernel_rfl) ?_ _;go_wp2;go_ret2;obtain⟨d6,n6,r6,m6,f6⟩:=D6'.out;exact⟨i,_,nn,l1,_,D6,hmd.1,hmd.2,rfl,n6,⟨_,_,_,_,d6⟩,.inr ⟨HK.1,HK.2,r6,m6,f6⟩⟩
 ·obtain⟨d,hd,e⟩:=HX.1
  exact absurd e (hno d hd)
end
section
variable{w w' W:World}{p pn pr b x:Nat}{D R l:List Nat}{Es:List ED}{par own:Nat→Nat}{nm:Nat→List (List Nat)}{vE vN:Value}{ad:Option Addr}{cap:Nat}
abbrev itZx:Array Value:= #[.string ⟨#[]⟩,.int .u16 0,.slice none 0 0,.int .u64 0,.bool false]
def ItD(Es:List ED)(nm:Nat→List (List Nat))(x:Nat)(e:Ending):Prop:= ∃(i:Nat) (d:ED),Es[i]?=some d∧d.y=x∧e= .returned (.tuple #[.agg #[.string (za0 (z3n (nm d.p))),.int .u16 d.ty,.slice d.ad d.n d.cp,.int .u64 d.en,d.us],(0:Int)])
theorem z3y(h:DE w p pn pr D Es R b l par own nm)(dn:DN l par own nm)(hl:Es.length≤1000)(hx:∃d∈Es,d.y=x)(hp:∀d∈Es,(d.p=0∨d.p∈l)∧chkN (nm d.p)=0):Calls prog 38 #[some p,x] w fun e w'=>ItD Es nm x e∧Fr [] w w':=by
 obtain⟨vE,vN,ad,cap,h⟩:=h;have f0:Fr [] w (w.alloc (.cells itZx 55)):=(Fr.refl [] w).alloc _;have hat:=xeat (h.fr0 f0).e (by omega) x;have HD:=h.fr0 f0;have HX:=hid (And.intro hx hp);have HLn:=hid hl;have hst:=(h.fr0 f0).e.st.cell 0;simp only[List.getElem?_toArray,List.getElem?_cons_zero]at hst;have A0:=Blk.new w 55 itZx;clear h hx hp;go_in;go_wp2_with fail;go_call hat as e w1 ⟨⟨i,d,rfl,hd,hy⟩|⟨rfl,hno⟩,hw⟩
 ·subst hw
  generalize hW1:w.alloc (.cells itZx 55)=W1 at*;obtain⟨adE,capE,rfl,hrw⟩:=HD.e.row;have hlt:=(List.getElem?_eq_some_iff.1 hd).1;obtain⟨g,rfl,hpg,hr⟩:=hrw (by omega);obtain⟨y0,y1,y2,y3,y4,y5⟩:=hr.six hd;have hcap:=hr.le;have hpd:=HX.2 d (List.mem_of_getElem? hd);have hmd:=hid (And.intro hd hy);obtain⟨dy,dp,dty,den,dad,dm,dcp,dus⟩:=d;simp only at y0 y1 y2 y3 y4 y5 hpd hy;generalize hn:Es.length=n at hst hlt hcap;have hl2:=HLn.out;rw[hn]at hl2;have b0:=dF ((i:Int)<0);have i0:(0:Int)≤i:=by omega
  have i1:(i:Int)<n:=by omega
  have HNm:=hid (fun V (hV:DD V pn vN l par own nm)=>z1w hV dn hpd.1);have HTx:=hid (fun V ad cap (hA:StrA V ad (nm dp))=>z3v V ad cap (nm dp) hA hpd.2);have E7:=hid (HD.fr0 ((Fr.refl [] W1).alloc (.cells #[dy,dp,.int .u16 dty,.int .u64 den,.slice dad dm dcp,dus] 82)));have B7:=hid (Blk.new W1 82 #[.int .i64 dy,.int .i64 dp,.int .u16 dty,.int .u64 den,.slice dad dm dcp,.bool dus]);have F7:=f0.alloc;have A7:=A0.alloc;clear hr hrw hd hpd hn hy hat hpg hW1;obtain⟨SS,hSS⟩:∃SS,za0 (z3n (nm dp))=SS:=⟨_,rfl⟩;have HSS:=hid hSS;rw[hSS]at HTx;clear hSS;generalize hLb:nm dp=Lb at HTx HNm;clear hLb;go_wp2;have hY:=And.intro (E7.e.st.drew.cell 1) (B7.drew.cell 1);simp only[gE]at hY;refine wp_region_held_drew (S:=fun W=>W.cell? ⟨p,1,none⟩=some (some pn:Value)∧W.cell? ⟨W1.heap.size,1,none⟩=some (.int .i64 dp)) (by kernel_rfl) (hY) (fun yH=> ?_);refine tkZ 0 ?_;refine tkZ 1 ?_;refine tkZ 2 ?_;refine tkZ 3 ?_;refine tkZ 4 ?_;refine tkZ 5 ?_;refine tkC 6 fun K hK=> ?_;go_simp;go_call HNm.out _ (E7.out.fr0 (Fr.refl [] _).drew).n as e w3 ⟨ad3,cap3,rfl,hs3,f3⟩;have f3':=(Fr.refl [] _).drew.trans f3;have T3:=hid (HTx.out _ _ cap3 hs3);have F3:=(F7 _).trans f3';have A3:=(A7 _).fr f3' (by simp);have B3:=B7.fr f3' (by simp);have hY:=And.intro ((E7.fr0 f3').e.st.cell 1) (B3.cell 1);simp only[gE]at hY;clear hs3 f3 f3';go_wp2_with fail;refine hK.out _ _ _ hY fun yH=> ?_;clear hK K;refine tkZ 7 ?_;refine tkZ 8 ?_;refine tkZ 9 ?_;refine tkZ 10 ?_;refine tkZ 11 ?_;refine wpAnyH_done (by kernel_rfl) ?_ _;clear HNm HTx E7 F7 A7 B7 hst y0 y1 y2 y3 y4 y5;go_wp2_with fail;go_call T3.out as e w4 ⟨rfl,f4⟩;have F4:=F3.trans f4;have A4:=A3.fr f4 (by simp);have dd:=(B3.fr f4 (by simp)).cell;have d1:=A4.cell;have z1:=A4.frozen;clear f4 T3 F3 A3 B3;go_wp2_with fail;refine gen5 (fun w9=>bodyPost _ _ _ _ _ w9) A4 rfl (Fr.refl [w.heap.size] _) (.inl (by simp)) ?_;intro w9 hb9 hf9;refine bodyPost_ret (zye (p:=4) (s:=5) (ty:=55) rfl _ _ w.heap.size 55 _ _ rfl hb9 underlying55 rfl (by kernel_rfl)) rfl ?_;exact⟨⟨_,_,hmd.1,hmd.2,by simp only[HSS.out];rfl⟩,F4.step hf9 (fun k hk=> .inr (by simp at hk;omega))⟩
 ·obtain⟨d,hd,e⟩:=HX.1
  exact absurd e (hno d hd)
end
section
variable{w0 W W':World}{q:MH}{S:SS}{x y n b c name typ k fr:Nat}{u v:TM}{L:Nat→Prop}{E E':Nat→HB}{B B':Nat→List Nat}{R l:List Nat}{X:HB}{bs:List Nat}{g:EW}{par refs own:Nat→Nat}{nm:Nat→List (List Nat)}
theorem NI.mod(g:NI w0 q S L l u E B W)(g':WB w0 q S L v E' B' W')(he:∀y,(E' y).tag=(E y).tag∧(E' y).name=(E y).name∧(E' y).hash=(E y).hash)(hb:∀y∈l,B' y=B y)(hr:v.rt 17=u.rt 17)(hsl:v.sl=u.sl):NI w0 q S L l v E' B' W':=by
 have hh:∀y,hsh E' y=hsh E y:=fun y=>by unfold hsh;rw[(he y).2.2]
 exact⟨g',g.nd,fun y=>by rw[g.mem y,(he y).1],by rw[hr];exact g.cnt,fun y hy=>by rw[hsl];exact g.inx y hy,fun y hy=>by rw[(he y).2.1];exact g.up y hy,fun y hy=>by rw[(he y).2.2,(he y).2.1,hh,hb y hy];exact g.hs y hy,fun y hy=>by rw[hb y hy];exact g.lb y hy,fun y hy z hz=>by rw[(he y).2.1,(he z).2.1,hb y hy,hb z hz];exact g.one y hy z hz⟩
theorem z3z(g:WB w0 q S L u E B W)(hx:L x)(hX:X.Ok)(hr:X.right=true)(ht:X.tag=(E x).tag)(hc:X.cls=(E x).cls)(hl:X.label=(E x).label)(hsz:X.size=(E x).size)(hh:X.hash=(E x).hash):Calls prog 88 #[q,x,X.val] W (zR (0:Int) fun w'=>Fr q.blocks W w'∧∃v,WB w0 q S L v (up E x X) B w'∧v.sl=u.sl∧v.rt=u.rt):=by
 have ok:=g.h.m.ok;have hE0:=g.ix.e x hx;have htn:X.tag=(X.tag.toNat:Int):=by rw[ht];exact hE0.tagN
 have hh0:HeadTo u x X.tag.toNat 5 X.num 0:=by
  rw[ht];exact⟨hE0.h.tg,hE0.h.base,hE0.h.al,hE0.h.fit,hE0.h.k0,hE0.h.kinds,fun f hf=>absurd hf (Nat.not_lt_zero _),fun f hf=>absurd hf (Nat.not_lt_zero _)⟩
 have ht0:X.tag.toNat≠0:=by rw[ht];rcases hE0.tgn with e|e<;>rw[e] <;>decide
 have htg:X.tag.toNat≤2:=hh0.tg;have hn:∀f,f<12→(wh X.tag.toNat f).2≠0→X.num f<256^(wh X.tag.toNat f).2:=fun f hf h0=>zlb X hX X.tag.toNat (by omega) htn hr f hf h0;have as_:=zl5 u x X.tag.toNat X.num 12;obtain⟨r1,r2,r3,r4,r5⟩:=zux u x X.tag.toNat X.num 12;have hE:=zl7 ok hh0 hn 12 (Nat.le_refl _);have ho:=zuw ok hE0.h.base htg X.num 12 (Nat.le_refl _);refine(zl9 W q u g.h x X.tag.toNat 5 X.num hh0 X hX hr htn (.inr ⟨rfl,ht0⟩)).mono fun e w' ⟨he,k1,k2⟩=>⟨he,k2,_,g.mod k1 k2 hx as_.1 as_.2 r5 r4 r1 r2 r3 (by rw[←ht];exact ho) ⟨hE,hX,hr,by rw[ht];exact hE0.tg⟩ ht hc hl hsz hh,r5,r1⟩
def EW.use(g:EW)(x:Nat)(us:Bool):EW:=⟨g.t,g.R,g.b,up g.d x {g.d x with used:=us},g.p⟩
theorem EnD.use{us:Bool}(h:EnD g u E B)(hq:RtQ u v)(hx:x∈g.R):EnD (g.use x us) v (up E x {E x with used:=us}) B:=by
 refine⟨fun f h1 h2=>(hq f h1 (h2.imp id (fun k=>by omega))).trans (h.rtb f h1 h2),(hq 13 (by decide) (by decide)).trans h.hand,(hq 14 (by decide) (by decide)).trans h.broom,(hq 15 (by decide) (by decide)).trans h.cnt,h.nd,h.bin,h.bnil,h.cyc.same (fun y _=> ?_),fun y hy=> ?_⟩
 ·by_cases e:y=x
  ·rw[e,zf1];exact⟨rfl,rfl⟩
  ·rw[zf2 _ _ e];exact⟨rfl,rfl⟩
 ·show cln (up E x {E x with used:=us} y)=up g.d x {g.d x with used:=us} y∧B y=g.p y
  have hd:=h.dat y hy;by_cases e:y=x
  ·subst e
   rw[zf1,zf1,←hd.1];exact⟨rfl,hd.2⟩
  ·rw[zf2 _ _ e,zf2 _ _ e];exact hd
theorem iuse(hI:IsH W q u)(hg:EGet q u x X (some ⟨q.m,0,none⟩) x 0)(us:Bool)(P:World→Prop)(hP:∀V,IsH V q u→Fr q.blocks W V→Calls prog 88 #[q,x,.agg #[X.tag,X.cls,us,X.label,.int .u32 X.name,.int .u32 X.next,.int .u32 X.prev,.int .u32 X.refs,.int .u64 X.expiry,.int .u16 X.typ,X.size,.int .u32 X.hash]] V (zR (0:Int) fun w'=>P w')):Calls prog 29 #[q,x,us] W (zR (0:Int) fun w'=>P w'):=by
 have HG:=hid (hg W hI);have HP:=hid hP;clear hI hg hP;obtain⟨tag,cls,used,label,nm1,next,prev,rf,expiry,ty,size,hash⟩:=X;simp only at HG HP;go_in;go_wp2_with fail;go_call HG.out as e w1 ⟨rfl,k1,f1⟩;have A1:=Blk.new w1 124 #[.int .i64 tag,.int .i64 cls,.bool used,.int .i64 label,.int .u32 nm1,.int .u32 next,.int .u32 prev,.int .u32 rf,.int .u64 expiry,.int .u16 ty,.int .i64 size,.int .u32 hash,.pointer (some ⟨q.m,0,none⟩),.int .i64 x];have dd:=A1.cell;have zz:=A1.frozen;have KF:=hid (And.intro k1 f1);clear k1 f1 HG;go_wp2_with fail;go_call HP.out _ (KF.out.1.alloc _) (KF.out.2.alloc _) as e w2 ⟨rfl,hp⟩;have H2:=hid hp;clear hp;go_wp2;go_ret;exact⟨rfl,H2.out⟩
theorem z30(h:CP w0 q g l par own nm fr W)(hx:x∈g.R)(us:Bool):Calls prog 29 #[q,x,us] W (zR (0:Int) fun w'=>CP w0 q (g.use x us) l par own nm fr w'∧Fr q.blocks W w'):=by
 obtain⟨refs,B,⟨S,L,u,E,B0,gi,ha,hd,r,hfr⟩,kn,h3⟩:=h;have hL:=(ha.2 x hx).1
 have ht:(E x).tag=1:=by
  rcases(gi.wb.ix.e x hL).tg with k|k
  ·exact k
  ·exact absurd ((gi.mem x).2 ⟨hL,k⟩) (ha.2 x hx).2
 have hX:=gi.wb.ix.e x hL;refine iuse gi.wb.h (zyg hX ht) us (fun w'=>CP w0 q (g.use x us) l par own nm fr w'∧Fr q.blocks W w') (fun V hV hf=> ?_);have gV:=gi.same hV hf
 have hr:({E x with used:=us}:HB).right=true:=by
  have hk:∀k,({E x with used:=us}:HB).lackTo k=(E x).lackTo k:=fun k=>by
   induction k with
   |zero=>rfl
   |succ k ih=>
    show(_||_)=(_||_);rw[ih];congr 1;match k with
    |0=>rfl
    |1=>rfl
    |2=>
     unfold HB.lackAt;simp only[ht];rw[show((whZ 1 ((2:Nat):Int)).2==0)=false from by decide,Bool.and_false,Bool.and_false]
    |k+3=>rfl
  have:=hX.r;unfold HB.right at this⊢;rw[hk];unfold zkq at this⊢;simp only[ht]at this⊢;exact this
 refine(z3z gV.wb hL (X:={E x with used:=us}) ⟨hX.ok.1,hX.ok.2,hX.ok.3,hX.ok.4,hX.ok.5,hX.ok.6,hX.ok.7,hX.ok.8,hX.ok.9,hX.ok.10,hX.ok.11⟩ hr rfl rfl rfl rfl rfl).mono fun e w' ⟨he,f2,v,g2,hsl,hrt⟩=>⟨he,?_,hf.trans f2⟩
 have he':∀y,(up E x {E x with used:=us} y).tag=(E y).tag∧(up E x {E x with used:=us} y).name=(E y).name∧(up E x {E x with used:=us} y).hash=(E y).hash:=fun y=>by
  by_cases e:y=x
  ·rw[e,zf1];exact⟨rfl,rfl,rfl⟩
  ·rw[zf2 _ _ e];exact⟨rfl,rfl,rfl⟩
 refine⟨refs,B,⟨S,L,v,_,B0,gV.mod g2 he' (fun _ _=>rfl) (by rw[hrt]) hsl,ha,hd.use (fun f _ _=>by rw[hrt]) hx,fun y hy=> ?_,hfr⟩,kn,h3⟩;have hne:y≠x:=fun e=>(ha.2 x hx).2 (e▸hy);rw[zf2 _ _ hne];exact r y hy
theorem WB.modB(g:WB w0 q S L u E B W)(h:IsH W' q v)(hf:Fr q.blocks W W')(hx:L x)(ea:v.a=u.a)(es:v.s=u.s)(esl:v.sl=u.sl)(eft:v.ft=u.ft)(ert:v.rt=u.rt)(eh:v.hd=u.hd)(ek:v.kd=u.kd)
  {z m:Nat} (o:Out u v z m) (hz:x+sz (E x).tag.toNat≤z) (hm:z+m≤x+sz (E x).tag.toNat+(B x).length) (hb:bs.length=(B x).length) (hlt:∀y∈bs,y<256) (hon:ByOn v (x+sz (E x).tag.toNat) bs.length (fun j=>bs[j]?.getD 0)):WB w0 q S L v E (up B x bs) W':=by
 have hcx:=g.ct x hx;obtain⟨c,e1,c1,c9,hlv,hfit⟩:=hcx.n;have b1:=(g.at_ hlv).1;have hs:=g.sl.inner g.h.m.ok (g.lv7 hlv) ea es (fun _ _=>by rw[ert]) eh ek (o.wide (y:=x) (m:=csz c) (by omega) (by omega));have ehm:hmE v E=hmE u E:=by unfold hmE;rw[es]
 have hby:∀y,L y→y≠x→∀n,Lv 7 S y n→∀k,k<n→zfz v (y+k)=zfz u (y+k):=fun y hy hne n hn k hk=>by
  have ap:=g.apart hlv hn (fun e=>hne e.symm);have b1':=(g.at_ hn).1;exact o.by_ (y+k) (by omega) (by omega)
 have hbx:∀k,k<sz (E x).tag.toNat→zfz v (x+k)=zfz u (x+k):=fun k hk=>o.by_ (x+k) (by omega) (by omega);refine⟨h,hs,⟨fun y hy=> ?_,fun i hi=>by rw[esl];exact g.ix.sl i (by rw[←es];exact hi),by rw[es];exact g.ix.s0,by rw[es];exact g.ix.s1⟩,by rw[esl,ehm];exact g.rh,fun y hy=> ?_,ea.trans g.a,es.trans g.s,eft.trans g.ft,g.f.step hf (fun k hk=> .inr (g.hq k hk)),g.hq,g.fl⟩
 ·obtain⟨c',_,_,_,hlv',hfit'⟩:=(g.ct y hy).n
  have hb:=g.ix.e y hy;obtain⟨_,b2,b3,b4,b5,_,b7⟩:=zp4 hs h.m.ok (show Lv v.a S y (csz c')by rw[ea,g.a];exact hlv');have hz:=zlt (E y).tag.toNat hb.h.tg;refine hb.keep ea es (fun gg g1 g2=>b7 gg g1 (by omega)) (by omega) (fun k hk=> ?_);by_cases e:y=x
  ·rw[e]at hk⊢;exact hbx k hk
  ·exact hby y hy e _ hlv' k (by omega)
 ·by_cases e:y=x
  ·subst e
   rw[zf1];exact⟨⟨c,e1,c1,c9,hlv,by rw[hb];exact hfit⟩,hlt,hon,fun k=>by rw[hb];exact hcx.l2 k,fun k=>by rw[hb];exact hcx.l1 k⟩
  ·rw[zf2 _ _ e]
   have hcy:=g.ct y hy;obtain⟨c',_,_,_,hlv',hfit'⟩:=hcy.n;refine⟨hcy.n,hcy.lt,fun j hj=> ?_,hcy.l2,hcy.l1⟩;rw[Nat.add_assoc,hby y hy e _ hlv' _ (by omega),←Nat.add_assoc];exact hcy.on j hj
def EW.put(g:EW)(x:Nat)(bs:List Nat):EW:=⟨g.t,g.R,g.b,g.d,up g.p x bs⟩
theorem EnD.put(h:EnD g u E B)(hq:RtQ u v):EnD (g.put x bs) v E (up B x bs):=
 ⟨fun f h1 h2=>(hq f h1 (h2.imp id (fun k=>by omega))).trans (h.rtb f h1 h2),(hq 13 (by decide) (by decide)).trans h.hand,(hq 14 (by decide) (by decide)).trans h.broom,(hq 15 (by decide) (by decide)).trans h.cnt,h.nd,h.bin,h.bnil,h.cyc,fun y hy=>by
  show _∧up B x bs y=up g.p x bs y;have hd:=h.dat y hy;refine⟨hd.1,?_⟩;by_cases e:y=x
  ·rw[e,zf1,zf1]
  ·rw[zf2 _ _ e,zf2 _ _ e];exact hd.2⟩
theorem CP.poke{Ls:List (List Nat)}{j:Nat}{s:List Nat}(h:CP w0 q g l par own nm fr W)(hx:x∈g.R)(hp:g.p x=zqj Ls)(hk:Ls[k]?=some s)(hj:j<s.length)(hb:b<256)(hW:(W.setCell ⟨q.ga,x+32+(2+2*Ls.length)+(Ls.take k).flatten.length+j,none⟩ (.int .u8 (b:Int))).drew=W'):CP w0 q (g.put x (zqj (Ls.set k (s.set j b)))) l par own nm fr W'∧Fr q.blocks W W':=by
 obtain⟨refs,B,⟨S,L,u,E,B0,gi,ha,hd,r,hfr⟩,kn,h3⟩:=h;have hL:=(ha.2 x hx).1
 have ht:(E x).tag=1:=by
  rcases(gi.wb.ix.e x hL).tg with k|k
  ·exact k
  ·exact absurd ((gi.mem x).2 ⟨hL,k⟩) (ha.2 x hx).2
 have hsz:sz (E x).tag.toNat=32:=by rw[ht];rfl
 have hct:=gi.wb.ct x hL;have hpx:B0 x=zqj Ls:=(hd.dat x hx).2.trans hp;obtain⟨c,_,_,_,hlv,hfit⟩:=hct.n;have hon:=hct.on;have hlt:=hct.lt;rw[hpx]at hfit hon hlt;rw[hsz]at hfit hon;obtain⟨b1,b2,b3,_,_,b6,_⟩:=gi.wb.at_ hlv;have hft:=(zqu hk).2;have hpl:=zqp Ls;have ok:=gi.wb.h.m.ok;have hln:(zqj (Ls.set k (s.set j b))).length=(zqj Ls).length:=by rw[z3a hk hj,List.length_set]
 have hI:=(gi.wb.h.poke (x+32+(2+2*Ls.length)+(Ls.take k).flatten.length+j) b hb (by omega) (by omega)).fr0 (Fr.refl [] _).drew;have f:Fr q.blocks W (W.setCell ⟨q.ga,x+32+(2+2*Ls.length)+(Ls.take k).flatten.length+j,none⟩ (.int .u8 (b:Int))).drew:=((Fr.refl _ W).setCell (.inl (by simp[MH.blocks])) _).drew;rw[hW]at hI f;refine⟨?_,f⟩;have o:=zny ok (x+32+(2+2*Ls.length)+(Ls.take k).flatten.length+j) 1 (fun _=>b) (fun _ _=>hb) (by omega)
 have g2:=gi.wb.modB hI f hL rfl rfl rfl rfl rfl rfl rfl o (by rw[hsz];omega) (by rw[hsz,hpx];omega) (bs:=zqj (Ls.set k (s.set j b))) (by rw[hln,hpx]) (fun y hy=>by
  rw[z3a hk hj]at hy;rcases List.mem_or_eq_of_mem_set hy with h|h
  ·exact hlt y h
  ·omega) (fun i hi=>by
  rw[hln]at hi;show _=(zqj (Ls.set k (s.set j b)))[i]?.getD 0;rw[hsz,znx ok _ 1 _ (fun _ _=>hb) (by omega),z3a hk hj,List.getElem?_set];by_cases e:i=2+2*Ls.length+(Ls.take k).flatten.length+j
  ·rw[if_pos (by omega),if_pos e.symm,if_pos (by omega)];rfl
  ·rw[if_neg (by omega),if_neg (fun h=>e h.symm)];exact hon i hi)
 have hxl:∀y∈l,y≠x:=fun y hy e=>(ha.2 x hx).2 (e▸hy);exact⟨refs,B,⟨S,L,_,E,_,gi.mod g2 (fun _=>⟨rfl,rfl,rfl⟩) (fun y hy=>zf2 _ _ (hxl y hy)) rfl rfl,ha,hd.put (fun _ _ _=>rfl),fun y hy=>by rw[zf2 _ _ (hxl y hy)];exact r y hy,hfr⟩,kn,h3⟩
end
section
variable{w0 W:World}{q:MH}{x fr:Nat}{t:TM}{l:List Nat}{g:EW}{par own:Nat→Nat}{nm:Nat→List (List Nat)}{pl:Int}
theorem z32(h:IsH W q t)(hg:EGet q t pl zHB none 0 30):Calls prog 35 #[q,pl] W (zR (.tuple #[.slice none 0 0,(30:Int)]) fun w'=>IsH w' q t∧Fr q.blocks W w'):=by
 have HG:=hid (hg _ h);clear h hg;unfold zHB at HG;go_in;go_wp2_with fail;go_call HG.out as e w1 ⟨rfl,k1,f1⟩;have HO:=hid (fun o=>And.intro (k1.alloc o) (f1.alloc o));clear k1 f1 HG;go_wp2;go_ret2;exact⟨rfl,HO.out _⟩
theorem z33(h:IsH W q t)(hg:EGet q t pl zHB none 0 30):Calls prog 32 #[q,pl] W (zR (.tuple #[.slice none 0 0,(30:Int)]) fun w'=>IsH w' q t∧Fr q.blocks W w'):=by
 have HG:=hid (hg _ h);clear h hg;unfold zHB at HG;go_in;go_wp2_with fail;go_call HG.out as e w1 ⟨rfl,k1,f1⟩;have HO:=hid (fun o=>And.intro (k1.alloc o) (f1.alloc o));clear k1 f1 HG;go_wp2;go_ret2;exact⟨rfl,HO.out _⟩
theorem z34(h:IsH W q t)(hg:EGet q t pl zHB none 0 30):Calls prog 26 #[q,pl] W (zR (.tuple #[(0:Int),(30:Int)]) fun w'=>IsH w' q t∧Fr q.blocks W w'):=by
 have HG:=hid (hg _ h);clear h hg;unfold zHB at HG;go_in;go_wp2_with fail;go_call HG.out as e w1 ⟨rfl,k1,f1⟩;have HO:=hid (fun o=>And.intro (k1.alloc o) (f1.alloc o));clear k1 f1 HG;go_wp2;go_ret2;exact⟨rfl,HO.out _⟩
theorem z35(h:IsH W q t)(hg:EGet q t pl zHB none 0 30)(us:Bool):Calls prog 29 #[q,pl,us] W (zR (30:Int) fun w'=>IsH w' q t∧Fr q.blocks W w'):=by
 have HG:=hid (hg _ h);clear h hg;unfold zHB at HG;go_in;go_wp2_with fail;go_call HG.out as e w1 ⟨rfl,k1,f1⟩;have HO:=hid (fun o=>And.intro (k1.alloc o) (f1.alloc o));clear k1 f1 HG;go_wp2;go_ret;exact⟨rfl,HO.out _⟩
theorem CP.kd(h:CP w0 q g l par own nm fr W):∃u,IsH W q u∧(∀V,IsH V q u→Fr q.blocks W V→CP w0 q g l par own nm fr V)∧∀V,IsH V q u→∀x:Int,Calls prog 34 #[q,x,(4:Int)] V (zE (.int .i64 (zck u.kinds x 4)) V):=by
 obtain⟨refs,B,⟨S,L,u,E,B0,gi,ha,hd,r,hfr⟩,kn,h3⟩:=h;exact⟨u,gi.wb.h,fun V hV hf=>⟨refs,B,⟨S,L,u,E,B0,gi.same hV hf,ha,hd,r,hfr⟩,kn,h3⟩,fun V hV x=>zlr V q u.ms hV.m.m x 4⟩
end
def RD(q:MH)(D:List Nat)(W:World)(k:Nat):Prop:=k∉q.blocks∧k∉D∧k<W.heap.size
section
variable{q:MH}{D D':List Nat}{W W':World}{ad:Option Addr}{L:List (List Nat)}
theorem RD.nk{k:Nat}(h:RD q D W k)(n:Nk q D W D' W'):RD q D' W' k:=
 ⟨h.1,fun hm=>(n.o k hm).elim h.2.1 (fun e=>absurd h.2.2 (Nat.not_lt.2 e)),Nat.lt_of_lt_of_le h.2.2 n.f.size⟩
theorem RD.no{k:Nat}(h:RD q D W k):k∉q.blocks++D:=fun hm=>(List.mem_append.1 hm).elim h.1 h.2.1
theorem RecA.nk(h:RecA (RD q D W) W ad L)(n:Nk q D W D' W'):RecA (RD q D' W') W' ad L:=
 ⟨fun i hi=>by
  obtain⟨g,o,a,c,e,h1,h2,h3,h4,h5⟩:=h.at_ i hi;exact⟨g,o,a,c,e,(n.f.cell (p:=⟨g,o+i,none⟩) h3 h4.no).trans h1,h2.fr n.f (fun g' o' e'=>(h5 g' o' e').no),Nat.lt_of_lt_of_le h3 n.f.size,h4.nk n,fun h p e=>(h5 h p e).nk n⟩,h.len⟩
theorem z36{base:Nat}{a:Option Addr}{n c:Nat}{x:List Nat}(h:OwnB W base (.slice a n c) x){g o:Nat}(e:a=some ⟨g,o,none⟩):∃cs,Blk W g 5 cs:=by
 obtain⟨_,⟨e1,_⟩|⟨g',cap,cur,e1,_,hg,_⟩⟩:=h
 ·injection e1 with e1
  rw[e1]at e;cases e
 ·injection e1 with e1
  rw[e1]at e;injection e with e;injection e with e;subst e;exact⟨_,hg⟩
theorem RecO.rd{base n cap:Nat}(h:RecO W base (.slice ad n cap) L)(hb:∀x∈L,∀b∈x,b<256)(hl:∀x∈L,x.length≤1099511627776)(hL:L.length≤1048576)(hq:∀k∈q.blocks,k<base)(hd:∀k∈D,∃t cs,Blk W k t cs∧t≠49∧t≠5):n=L.length∧RecA (RD q D W) W ad L:=by
 have h0:=h;obtain⟨ad',cap',e,hA⟩:=h.recA hb hl hL;injection e with e1 e2 e3;subst e1 e2;refine⟨rfl,⟨fun i hi=> ?_,hA.len⟩⟩;obtain⟨g,o,a,c,e,h1,h2,h3,h4,h5⟩:=hA.at_ i hi;obtain⟨vs,⟨k1,k2⟩,h2',h3'⟩:=h0;rcases k2 with⟨k2,_⟩|⟨g',cap2,cur,k2,kb,kg,kc,km,ks,kt⟩
 ·injection k2 with k2
  rw[k2]at e;cases e
 injection k2 with k2 _ _;rw[k2]at e;injection e with e;injection e with e e';subst e e'
 have hD1:∀{k t cs},Blk W k t cs→(t=49∨t=5)→k∉D:=fun{k t cs} hk ht hm=>by
  obtain⟨t',cs',h1,h2,h3⟩:=hd k hm;refine Blk.ne_ hk h1 ?_ rfl;rcases ht with e|e<;>rw[e]
  ·exact fun e=>h2 e.symm
  ·exact fun e=>h3 e.symm
 refine⟨g',0,a,c,k2,h1,h2,h3,⟨fun hm=> ?_,hD1 kg (.inl rfl),Blk.lt kg⟩,fun h p e=> ?_⟩
 ·have:=hq _ hm;omega
 ·obtain⟨va,e1,e2⟩:=h3' i _ (List.getElem?_eq_getElem hi)
  have h3:(cur.toList.take (L.length*1))[i]?=vs[i]?:=by rw[kt]
  rw[List.getElem?_take,if_pos (by omega),e1]at h3;rw[Nat.zero_add,Blk.cell kg]at h1
  have hva:va= .slice a (L[i]?.getD []).length c:=by
   rw[←Array.getElem?_toList,h3]at h1;exact Option.some.inj h1
  rw[hva]at e2;obtain⟨cs,hcs⟩:=z36 e2 e;exact⟨fun hm=>by have:=hq _ hm;have:=h5 h p e;omega,hD1 hcs (.inr rfl),hcs.lt⟩
def Caps(W:World)(ad:Option Addr)(L:List (List Nat)):Prop:= ∀i,i<L.length→ ∀g o a m c,ad=some ⟨g,o,none⟩→W.cell? ⟨g,o+i,none⟩=some (.slice a m c)→m≤c
theorem RecO.caps{base n cap:Nat}(h:RecO W base (.slice ad n cap) L):Caps W ad L:=fun i hi g o a m c e hc=>by
 obtain⟨vs,⟨k1,k2⟩,h2',h3'⟩:=h;rcases k2 with⟨k2,_⟩|⟨g',cap2,cur,k2,kb,kg,kc,km,ks,kt⟩
 ·injection k2 with k2
  rw[k2]at e;cases e
 injection k2 with k2 _ _;rw[k2]at e;injection e with e;injection e with e e';subst e e';obtain⟨va,e1,e2⟩:=h3' i _ (List.getElem?_eq_getElem hi);have h3:(cur.toList.take (L.length*1))[i]?=vs[i]?:=by rw[kt]
 rw[List.getElem?_take,if_pos (by omega),e1]at h3;rw[Nat.zero_add,Blk.cell kg,←Array.getElem?_toList,h3]at hc;obtain rfl:=Option.some.inj hc;obtain⟨_,⟨e3,_⟩|⟨g',cap',cur',e3,_,_,k,_⟩⟩:=e2
 ·injection e3 with _ e4 e5;omega
 ·injection e3 with _ e4 e5;omega
structure RecD(q:MH)(D:List Nat)(W:World)(ad:Option Addr)(L:List (List Nat)):Prop where
 a:RecA (RD q D W) W ad L
 c:Caps W ad L
theorem RecD.nk(h:RecD q D W ad L)(n:Nk q D W D' W'):RecD q D' W' ad L:=
 ⟨h.a.nk n,fun i hi g o a m c e hc=>by
  obtain⟨g',o',a',c',e',h1,h2,h3,h4,h5⟩:=h.a.at_ i hi;rw[e]at e';injection e' with e';injection e' with e1 e2;subst e1 e2;exact h.c i hi g o a m c e ((n.f.cell (p:=⟨g,o+i,none⟩) h3 h4.no).symm.trans hc)⟩
end
section
variable{w:World}{p pn pr b:Nat}{D R l:List Nat}{Es:List ED}{par own:Nat→Nat}{nm:Nat→List (List Nat)}{v vE vN:Value}{ad:Option Addr}{cap:Nat}
theorem DE.ty(h:DE w p pn pr D Es R b l par own nm):∀k∈D,∃t cs,Blk w k t cs∧t≠49∧t≠5:=fun k hk=>by
 obtain⟨vE,vN,ad,cap,h⟩:=h
 have hr:∀{base n s:Nat} {e:TypeId} {v:Value} {xs:List Value},w.ownsRow base e s v n xs→k∈ownS v→∃cs,Blk w k e cs:=fun{base n s e v xs} ho hm=>by
  obtain⟨_,⟨rfl,_⟩|⟨g,cap,cur,rfl,_,hg,_⟩⟩:=ho
  ·cases hm
  ·simp[ownS,Value.ownBlock]at hm
   subst hm;exact⟨_,hg⟩
 rcases(h.mem k).1 hk with e|e|e|e|e|e
 ·rw[e];exact⟨_,_,h.e.st,by decide,by decide⟩
 ·rw[e];exact⟨_,_,h.n.st,by decide,by decide⟩
 ·rw[e];exact⟨_,_,h.g.st,by decide,by decide⟩
 ·obtain⟨cs,hc⟩:=hr h.e.r e
  exact⟨_,_,hc,by decide,by decide⟩
 ·obtain⟨cs,hc⟩:=hr h.n.r e
  exact⟨_,_,hc,by decide,by decide⟩
 ·obtain⟨_,_,_,cur,hc,_⟩:=z2d h.g e
  exact⟨_,_,hc,by decide,by decide⟩
end
theorem chk_iff{L:List (List Nat)}:chkN L=0↔L.all zuz=true∧zzj L≤255:=by
 unfold chkN;constructor
 ·intro h
  split at h
  ·split at h
   ·cases h
   ·exact⟨by assumption,by omega⟩
  ·cases h
 ·rintro⟨h1,h2⟩
  rw[if_pos h1,if_neg (by omega)]
theorem z38{s t:List (List Nat)}(h:chkN (s++t)=0):chkN t=0:=by
 obtain⟨h1,h2⟩:=chk_iff.1 h;rw[List.all_append,Bool.and_eq_true]at h1;refine chk_iff.2 ⟨h1.2,?_⟩;have e1:=z3o (s++t) 1;have e2:=z3o t 1;rw[List.map_append,List.flatten_append,List.length_append]at e1;unfold zzj at h2⊢;omega
theorem z39{L:List (List Nat)}(h:chkN L=0):chkN (lowN L)=0:=by
 obtain⟨h1,h2⟩:=chk_iff.1 h;refine chk_iff.2 ⟨?_,?_⟩
 ·unfold lowN
  rw[List.all_map,←h1];congr 1;funext s;exact zwx s
 ·have e1:=z3o L 1
  have e2:=z3o (lowN L) 1
  have e3:∀L:List (List Nat),((lowN L).map (46::·)).flatten.length=(L.map (46::·)).flatten.length:=fun L=>by
   induction L with
   |nil=>rfl
   |cons s L ih=>
    show(((s.map lowB)::lowN L).map (46::·)).flatten.length=_;simp only[List.map_cons,List.flatten_cons,List.length_append,List.length_cons,List.length_map]at ih⊢;omega
  have:=e3 L;unfold zzj at h2⊢;omega
structure PE(wa:World)(q:MH)(base p pn pr:Nat)(D:List Nat)(g:EW)(l:List Nat)(par own:Nat→Nat)(nm:Nat→List (List Nat))(fr:Nat)(Es:List ED)(W:World):Prop where
 k:KE wa q base p pn pr D g l par own nm fr Es g.R g.b W
 r:ERel g Es
 h:EHs g l nm
 o:OwnE g own
 c: ∀y,y=0∨y∈l→chkN (nm y)=0
 d: ∀d∈Es,d.en=(g.d d.y).expiry∧d.us=(g.d d.y).used∧ ∃Ls,GoodR Ls∧g.p d.y=zqj Ls∧d.n=Ls.length∧RecD q D W d.ad Ls
section
variable{wa W W':World}{q:MH}{base p pn pr fr fr1 x name typ ex:Nat}{D D' l l1 A C:List Nat}{g:EW}{par own par1:Nat→Nat}{nm nm1:Nat→List (List Nat)}{Es:List ED}{L Ls:List (List Nat)}{ad:Option Addr}{cp:Nat}
theorem PE.keep(h:PE wa q base p pn pr D g l par own nm fr Es W)(n:Nk q D W D' W')(k:KE wa q base p pn pr D' g l par own nm fr1 Es g.R g.b W'):PE wa q base p pn pr D' g l par own nm fr1 Es W':=
 ⟨k,h.r,h.h,h.o,h.c,fun d hd=>by
  obtain⟨h1,h2,Ls,h3,h4,h5,h6⟩:=h.d d hd;exact⟨h1,h2,Ls,h3,h4,h5,h6.nk n⟩⟩
theorem PE.mem(h:PE wa q base p pn pr D g l par own nm fr Es W)(hf:Fr q.blocks W W')(c:CP wa q g l par own nm fr1 W'):PE wa q base p pn pr D g l par own nm fr1 Es W':=h.keep (Nk.ofQ hf) (h.k.same hf c)
theorem PE.fr0(h:PE wa q base p pn pr D g l par own nm fr Es W)(hf:Fr [] W W'):PE wa q base p pn pr D g l par own nm fr Es W':=h.keep (Nk.of0 hf) (h.k.fr0 hf)
theorem PE.add(h:PE wa q base p pn pr D g l par own nm fr Es W)(n:Nk q D W D' W')(hxR:x∉g.R)(hGd:GoodR Ls)(hck:chkN L=0)(hname:name=0∨name∈l1)(hnm:nm1 name=lowN L)(hsub:(∀y∈l,y∈l1)∧ ∀y∈l1,y∉l→ ∃s,lowN L=s++nm1 y)(hna: ∀y,y=0∨y∈l→nm1 y=nm y)
  (hfi:g.R.find? (zyq g.d name typ)=none) (hrec:RecO W' W.heap.size (.slice ad Ls.length cp) Ls) (hb: ∀x∈Ls,∀b∈x,b<256)
  (k2:KE wa q base p pn pr D' (g.add x (enX (clsM (32+(zqj Ls).length)) (zqj Ls).length name typ ex (keyH (HN (nm1 name)) typ)) (zqj Ls)) l1 par1 (ownP own name) nm1 fr1 (Es++ [⟨x,name,typ,ex,ad,Ls.length,cp,false⟩]) (g.R++ [x]) (insB g.R g.b x) W'):
  PE wa q base p pn pr D' (g.add x (enX (clsM (32+(zqj Ls).length)) (zqj Ls).length name typ ex (keyH (HN (nm1 name)) typ)) (zqj Ls)) l1 par1 (ownP own name) nm1 fr1 (Es++ [⟨x,name,typ,ex,ad,Ls.length,cp,false⟩]) W':=by
 refine⟨k2,h.r.add hxR rfl rfl rfl,(h.h.sub hsub.1 hna).add hxR hname rfl hfi,h.o.add hxR,fun y hy=> ?_,fun d hd=> ?_⟩
 ·by_cases e:y=0∨y∈l
  ·rw[hna y e];exact h.c y e
  ·obtain⟨s,hs⟩:=hsub.2 y (hy.resolve_left (fun k=>e (.inl k))) (fun k=>e (.inr k))
   have:=z39 hck
   rw[hs]at this
   exact z38 this
 ·rcases List.mem_append.1 hd with hd|hd
  ·have hdR:d.y∈g.R:=h.r.in_.2 ⟨d,hd,rfl⟩
   have hne:d.y≠x:=fun e=>hxR (e▸hdR)
   obtain⟨h1,h2,L1,h3,h4,h5,h6⟩:=h.d d hd
   refine⟨?_,?_,L1,h3,?_,h5,h6.nk n⟩
   ·show _=(up g.d x _ d.y).expiry
    rw[zf2 _ _ hne];exact h1
   ·show _=(up g.d x _ d.y).used
    rw[zf2 _ _ hne];exact h2
   ·show up g.p x _ d.y=_
    rw[zf2 _ _ hne];exact h4
  ·obtain rfl:=List.mem_singleton.1 hd
   have hle: ∀s∈Ls,s.length≤1099511627776:=fun s hs=>by
    obtain⟨i,hi,rfl⟩:=List.mem_iff_getElem.1 hs
    have h2:=(zqu (List.getElem?_eq_getElem hi)).2
    have h3:=hGd.size
    have:=hGd.s
    omega
   have hr:=hrec.rd hb hle (by have:=hGd.n;omega) (fun k hk=>h.k.c.bok.q k hk) k2.d.ty
   refine⟨?_,?_,Ls,hGd,?_,rfl,hr.2,hrec.caps⟩
   ·show ex=(up g.d x _ x).expiry
    rw[zf1];rfl
   ·show false=(up g.d x _ x).used
    rw[zf1];rfl
   ·exact zf1 _ _ _
def Went(l:List Nat)(par own:Nat→Nat)(name n:Nat)(l1:List Nat)(own1:Nat→Nat):Prop:=(name=0∧n=0∧l1=l∧own1=own)∨(name≠0∧own1=up own name (own name-1)∧Rem own1 par l l1∧n+l1.length=l.length∧Firm own1 par l1)
theorem Went.uniq{n1 n2:Nat}{la lb:List Nat}{oa ob:Nat→Nat}(hn:l.Nodup)(h1:Went l par own name n1 la oa)(h2:Went l par own name n2 lb ob):n1=n2∧la=lb∧oa=ob:=by
 rcases h1 with⟨a1,a2,a3,a4⟩|⟨a1,a2,a3,a4,a5⟩<;>rcases h2 with⟨b1,b2,b3,b4⟩|⟨b1,b2,b3,b4,b5⟩
 ·exact⟨a2.trans b2.symm,a3.trans b3.symm,a4.trans b4.symm⟩
 ·exact absurd a1 b1
 ·exact absurd b1 a1
 ·subst a2 b2
  have e:=a3.uniq b3 a5 b5 hn;subst e;exact⟨by omega,rfl,rfl⟩
theorem z4a(h:CP wa q g l par own nm fr W)(ho:OwnE g own)(hR:g.R=A++x::C):Calls prog 26 #[q,x] W fun e w'=>∃(n:Nat) (l1:List Nat) (own1:Nat→Nat) (fr1:Nat),e= .returned (.tuple #[(n:Nat),(0:Int)])∧Fr q.blocks W w'∧CP wa q (g.del A C x) l1 par own1 nm fr1 w'∧OwnE (g.del A C x) own1∧Went l par own (g.d x).name n l1 own1:=by
 have hxm:x∈g.R:=by rw[hR];simp
 refine(z0p h hR (fun e w'=>∃(n:Nat) (l1:List Nat) (own1:Nat→Nat) (fr1:Nat),e= .returned (.tuple #[(n:Nat),(0:Int)])∧Fr q.blocks W w'∧CP wa q (g.del A C x) l1 par own1 nm fr1 w'∧OwnE (g.del A C x) own1∧Went l par own (g.d x).name n l1 own1) (fun V fr' f hC=> ?_));by_cases h0:(g.d x).name=0
 ·rw[h0]
  refine(zzy).mono fun e w' ⟨he,hw⟩=> ?_;rw[hw];have:=ho.del hR 0 (fun k=>absurd h0 k);rw[if_pos h0]at this;exact⟨0,0,he,0,l,own,fr',rfl,f,hC,this,.inl ⟨rfl,rfl,rfl,rfl⟩⟩
 ·obtain⟨k,hk⟩:=ho.pos hxm h0
  have hl:(g.d x).name∈l:=by
   by_cases hm:(g.d x).name∈l
   ·exact hm
   ·have:=hC.out hm;omega
  refine(zzx hC hl k hk).mono fun e w' ⟨n,l1,fr1,he,f2,h2,h3,h4⟩=> ?_;have:=ho.del hR k (fun _=>hk);rw[if_neg h0]at this;exact⟨n,0,he,n,l1,_,fr1,rfl,f.trans f2,h2,this,.inr ⟨h0,by rw[hk];rfl,h3,h4,h2.firm⟩⟩
end
section
variable{wa W:World}{q:MH}{base p pn pr fr fr1 x name:Nat}{D D' l l1 A C:List Nat}{g:EW}{par own own1:Nat→Nat}{nm:Nat→List (List Nat)}{Es:List ED}{Ls:List (List Nat)}{ad:Option Addr}
theorem Went.sub{n:Nat}(h:Went l par own name n l1 own1):∀y∈l1,y∈l:=fun y hy=>by
 rcases h with⟨-,-,rfl,-⟩|⟨-,-,h3,-⟩
 ·exact hy
 ·exact h3.sub.subset hy
theorem z4b(h:ERel g Es)(hn:g.R.Nodup)(hR:g.R=A++x::C){i:Nat}{d:ED}(hd:Es[i]?=some d)(hy:d.y=x):ERel (g.del A C x) (cutE Es i)∧∀d'∈cutE Es i,d'∈Es∧d'.y≠x:=by
 obtain⟨hi,hd'⟩:=List.getElem?_eq_some_iff.1 hd;have hm:(Es.map (·.y))[i]?=some x:=by rw[List.getElem?_map,hd];exact congrArg some hy
 rw[h.y,hR]at hm;rw[hR]at hn
 have hiA:i=A.length:=by
  rcases Nat.lt_trichotomy i A.length with k|k|k
  ·rw[List.getElem?_append_left k]at hm
   exact absurd (List.mem_of_getElem? hm) (fun hx=>(List.nodup_append.1 hn).2.2 x hx x (by simp) rfl)
  ·exact k
  ·rw[List.getElem?_append_right (by omega)]at hm
   obtain⟨m,hm'⟩:∃m,i-A.length=m+1:=⟨i-A.length-1,by omega⟩;rw[hm',List.getElem?_cons_succ]at hm;have h2:=(List.nodup_append.1 hn).2.1;exact absurd (List.mem_of_getElem? hm) (List.nodup_cons.1 h2).1
 subst hiA;have hy2:=h.y;rw[hR]at hy2;have h1:(Es.take A.length).map (·.y)=A:=by rw[List.map_take,hy2,List.take_left]
 have h2:(Es.drop (A.length+1)).map (·.y)=C:=by
  rw[List.map_drop,hy2,show A.length+1=A.length+ [x].length from rfl,←List.length_append,show A++x::C=(A++ [x])++C from by simp,List.drop_left]
 have hmem:∀d'∈cutE Es A.length,d'∈Es∧d'.y≠x:=fun d' hm=>by
  rcases List.mem_append.1 hm with hm|hm
  ·refine⟨List.mem_of_mem_take hm,fun e=> ?_⟩
   have:x∈A:=by rw[←h1,←e];exact List.mem_map_of_mem hm
   exact(List.nodup_append.1 hn).2.2 x this x (by simp) rfl
  ·refine⟨List.mem_of_mem_drop hm,fun e=> ?_⟩
   have:x∈C:=by rw[←h2,←e];exact List.mem_map_of_mem hm
   exact(List.nodup_cons.1 (List.nodup_append.1 hn).2.1).1 this
 refine⟨⟨?_,fun d' hm=>h.f d' (hmem d' hm).1⟩,hmem⟩;show(cutE Es A.length).map (·.y)=A++C;unfold cutE;rw[List.map_append,h1,h2]
def XRm(wa:World)(q:MH)(base p pn pr:Nat)(D:List Nat)(g:EW)(l1:List Nat)(par own1:Nat→Nat)(nm:Nat→List (List Nat))(fr1 n x:Nat)(V:World)(e:Ending)(w':World):Prop:=
 e= .returned (.tuple #[(n:Nat),(0:Int)])∧ ∃D' Es',Nk q D V D' w'∧PE wa q base p pn pr D' g l1 par own1 nm fr1 Es' w'
theorem z4c(h:PE wa q base p pn pr D g l par own nm fr Es W)(hR:g.R=A++x::C):Calls prog 26 #[q,x] W fun e w'=>∃(n:Nat) (l1:List Nat) (own1:Nat→Nat) (fr1:Nat),e= .returned (.tuple #[(n:Nat),(0:Int)])∧Fr q.blocks W w'∧
  ∀V,Fr [] w' V→Calls prog 27 #[some p,x] V (XRm wa q base p pn pr D (g.del A C x) l1 par own1 nm fr1 n x V):=by
 refine(z4a h.k.c h.o hR).mono fun e w' ⟨n,l1,own1,fr1,he,f1,c1,o1,w1⟩=>⟨n,l1,own1,fr1,he,f1,fun V hV=> ?_⟩;have hnd:=h.k.c.rfew.2;have hxm:x∈g.R:=by rw[hR];simp
 have hEl:Es.length=g.R.length:=by rw[←h.r.y,List.length_map]
 have hfew:=h.k.c.rfew.1;have nV:Nk q D W D V:=(Nk.ofQ f1).trans (Nk.of0 hV);have dV:DE V p pn pr D Es g.R g.b l par own nm:=((h.k.mem f1 c1).2).fr0 hV;rw[hR]at dV;refine(z3x dV h.k.c.dn (by omega) (by rw[←hR];omega) (by rw[←hR];exact hnd) (h.r.in_.1 hxm) (fun d hd=> ?_) (fun y=> ?_)).mono fun e2 w2 ⟨i,d,n2,l2,own2,D',hd,hy,he2,nd,d2,hw2⟩=> ?_
 ·have hdR:d.y∈g.R:=h.r.in_.2 ⟨d,hd,rfl⟩
  have hdp:=(h.r.f d hd).1;rcases h.h.ok _ hdR with e|e
  ·exact .inl (hdp.trans e)
  ·right
   rw[hdp];refine⟨e,?_⟩;obtain⟨k,hk⟩:=h.o.pos hdR (h.k.c.rng e).1;omega
 ·by_cases h0:y=0
  ·by_cases hm:y∈l
   ·exact absurd h0 (h.k.c.rng hm).1
   ·have:=h.k.c.out hm;omega
  ·have:=h.o y h0
   have:=List.countP_le_length (p:=fun z=>(g.d z).name==y) (l:=g.R);omega
 ·have hdp:d.p=(g.d x).name:=by rw[(h.r.f d (List.mem_of_getElem? hd)).1,hy]
  rw[hdp]at hw2;obtain⟨rfl,rfl,rfl⟩:=w1.uniq h.k.c.dn.nd hw2;obtain⟨hr,hmem⟩:=z4b h.r hnd hR hd hy;have cV:=(c1.fr0 hV).frL h.k.ok nd.f h.k.hD;have nW:Nk q D V D' w2:=Nk.ofD nd;refine⟨he2,D',cutE Es i,nW,⟨⟨cV,d2,h.k.ok,fun k hk=>(nd.o k hk).elim (h.k.hD k) (fun e=> ?_)⟩,hr,⟨fun y hy=> ?_,fun y hy=>h.h.hs y (by rw[hR];have:y∈A++C:=hy;simp at this⊢;rcases this with k|k<;>simp[k]),fun y hy z hz=>h.h.one y (by rw[hR];have:y∈A++C:=hy;simp at this⊢;rcases this with k|k<;>simp[k]) z (by rw[hR];have:z∈A++C:=hz;simp at this⊢;rcases this with k|k<;>simp[k])⟩,o1,fun y hy=>h.c y (hy.imp id (fun k=>w1.sub y k)),fun d' hd'=> ?_⟩⟩
  ·have hb:base≤W.heap.size:=by
    obtain⟨vE,vN,ad,cap,hh⟩:=h.k.d;have hm:=(hh.mem p).2 (.inl rfl);exact Nat.le_of_lt (Nat.lt_of_le_of_lt (h.k.hD p hm) (hh.lt p hm))
   exact Nat.le_trans hb (Nat.le_trans nV.f.size e)
  ·by_cases h0:(g.d y).name=0
   ·exact .inl h0
   ·right
    obtain⟨k,hk⟩:=o1.pos (show y∈(g.del A C x).R from hy) h0;by_cases hm:(g.d y).name∈l1
    ·exact hm
    ·have:=c1.out hm
     have h3:own1 (g.d y).name=k+1:=hk;omega
  ·obtain⟨hm,_⟩:=hmem d' hd'
   obtain⟨h1,h2,Ls,h3,h4,h5,h6⟩:=h.d d' hm;exact⟨h1,h2,Ls,h3,h4,h5,(h6.nk nV).nk nW⟩
theorem z4d(h:PE wa q base p pn pr D g l par own nm fr Es W)(hx:x∉g.R):Calls prog 27 #[some p,x] W (zE (.tuple #[(0:Int),(30:Int)]) W):=
 z3w h.k.d (by have e:Es.length=g.R.length:=(by rw[←h.r.y,List.length_map]);have:=h.k.c.rfew.1;omega) (fun d hd e=>hx (h.r.in_.2 ⟨d,hd,e⟩))
end
theorem z4e:∀(l:List ED) (i j:Nat) (u:Value) (d d':ED),l[i]?=some d→j<6→d'.cl=d.cl.set j u→(edL l).set (i*6+j) u=edL (l.set i d')
 |b::l,0,j,u,d,d',h,hj,e=>by
  simp at h;subst h;show(b.cl++edL l).set (0*6+j) u=d'.cl++edL l;rw[Nat.zero_mul,Nat.zero_add,List.set_append_left _ _ (by rw[ED.cl_len];exact hj),e]
 |b::l,i+1,j,u,d,d',h,hj,e=>by
  rw[List.getElem?_cons_succ]at h;show(b.cl++edL l).set ((i+1)*6+j) u=b.cl++edL (l.set i d');rw[List.set_append_right _ _ (by rw[ED.cl_len];omega),ED.cl_len,show(i+1)*6+j-6=i*6+j from by omega,z4e l i j u d d' h hj e]
theorem Rke.setF{W:World}{base g cap n:Nat}{L:List ED}(h:Rke W base (.slice (some ⟨g,0,none⟩) n cap) L){i j:Nat}{d d':ED}{u:Value}(hd:L[i]?=some d)(hj:j<6)(e:d'.cl=d.cl.set j u):Rke (W.setCell ⟨g,i*6+j,none⟩ u) base (.slice (some ⟨g,0,none⟩) n cap) (L.set i d'):=by
 obtain⟨_,⟨_,h3⟩|⟨g',cap',cur,e0,hb,hg,r1,r2,r3,r4⟩⟩:=h
 ·have:=(List.getElem?_eq_some_iff.1 hd).1
  omega
 ·injection e0 with e1 e2 e3
  injection e1 with e1;injection e1 with e1;subst e1 e3;have hs:=Blk.set (g:=g) (t:=82) (cs:=cur) hg (i*6+j) u;refine⟨by rw[z13,List.length_set],.inr ⟨g,cap,_,by rw[e2,List.length_set],hb,hs,by rw[List.length_set];exact r1,r2,by simpa using r3,?_⟩⟩;rw[List.length_set,Array.toList_setIfInBounds,List.take_set,r4,z4e _ _ _ _ _ _ hd hj e]
section
variable{wa W W' V:World}{q:MH}{base p pn pr fr name typ b:Nat}{D l R:List Nat}{g:EW}{par own:Nat→Nat}{nm:Nat→List (List Nat)}{Es:List ED}{Ls:List (List Nat)}{ad:Option Addr}
theorem DE.cellE(h:DE W p pn pr D Es R b l par own nm){i j:Nat}{d d':ED}{u:Value}(hd:Es[i]?=some d)(hj:j<6)(e:d'.cl=d.cl.set j u):∃ge cap,ge∈D∧W.cell? ⟨p,0,none⟩=some (.slice (some ⟨ge,0,none⟩) Es.length cap)∧(∀k,k<6→W.cell? ⟨ge,i*6+k,none⟩=d.cl[k]?)∧W.frozen? ⟨ge,i*6+j,none⟩=false∧i<Es.length∧Es.length≤cap∧
  DE (W.setCell ⟨ge,i*6+j,none⟩ u) p pn pr D (Es.set i d') R b l par own nm:=by
 obtain⟨vE,vN,ad,cap,h⟩:=h;obtain⟨hi,hd'⟩:=List.getElem?_eq_some_iff.1 hd;obtain⟨adE,capE,rfl,hrw⟩:=h.e.row;obtain⟨ge,rfl,hpg,hr⟩:=hrw (by omega);have hge:ge∈ownS (.slice (some ⟨ge,0,none⟩) Es.length capE):=by simp[ownS,Value.ownBlock]
 have hne:=h.e_ne ge hge;have f:Fr [ge] W (W.setCell ⟨ge,i*6+j,none⟩ u):=(Fr.refl [ge] W).setCell (.inl (by simp)) _;have c0:=h.e.st.cell 0;simp at c0;refine⟨ge,capE,(h.mem ge).2 (.inr (.inr (.inr (.inl hge)))),c0,fun k hk=>by rw[hr.cell i hi k hk,hd'],?_,hi,hr.le,?_⟩
 ·obtain⟨cur,hb,_⟩:=hr
  exact hb.frozen _
 ·have hE:IsE (W.setCell ⟨ge,i*6+j,none⟩ u) p (.slice (some ⟨ge,0,none⟩) Es.length capE) pn pr (Es.set i d'):=⟨h.e.st.fr f (by simp;exact fun e=>hne.1 e.symm),h.e.r.setF hd hj e⟩
  exact⟨_,vN,ad,cap,hE,h.n.fr f (by simp;exact fun e=>hne.2.1 e.symm) (fun k hk e=>by
   simp at hk;subst hk;exact hne.2.2.2.1 (ownS_iff.2 e)),h.g.frS f (by simp;exact fun e=>hne.2.2.1 e.symm) (fun h0 g' o' e' hm=>by
   simp at hm;subst hm;exact hne.2.2.2.2 (z2c h0 e')),h.d⟩
theorem z4f(h:PE wa q base p pn pr D g l par own nm fr Es W)(us:Bool){i:Nat}{d:ED}(hd:Es[i]?=some d)(hW:∃ge,W'=W.setCell ⟨ge,i*6+5,none⟩ (.bool us)∧ge∈D)(hDE:DE W' p pn pr D (Es.set i {d with us:=us}) g.R g.b l par own nm):Nk q D W D W'∧∀V,Fr [] W' V→Calls prog 29 #[q,d.y,us] V (zR (0:Int) fun w'=>PE wa q base p pn pr D (g.use d.y us) l par own nm fr (Es.set i {d with us:=us}) w'∧Nk q D W D w'):=by
 obtain⟨ge,rfl,hge⟩:=hW;obtain⟨hi,hd'⟩:=List.getElem?_eq_some_iff.1 hd;have f:Fr D W (W.setCell ⟨ge,i*6+5,none⟩ (.bool us)):=(Fr.refl D W).setCell (.inl hge) _;have n1:Nk q D W D (W.setCell ⟨ge,i*6+5,none⟩ (.bool us)):=⟨f.mono (fun k hk=> .inl (List.mem_append_right _ hk)),fun k hk=> .inl hk⟩;have c1:=h.k.c.frL h.k.ok f h.k.hD;have hdR:d.y∈g.R:=h.r.in_.2 ⟨d,List.mem_of_getElem? hd,rfl⟩;refine⟨n1,fun V hV=>(z30 (c1.fr0 hV) hdR us).mono fun e w' ⟨he,c2,f2⟩=> ?_⟩;have n2:Nk q D W D w':=(n1.trans (Nk.of0 hV)).trans (Nk.ofQ f2);have hqD:=h.k.qD;have dW:DE w' p pn pr D (Es.set i {d with us:=us}) g.R g.b l par own nm:=(hDE.fr0 hV).frS f2 hqD;have hm:∀d'∈Es.set i {d with us:=us},d'={d with us:=us}∨d'∈Es:=fun d' hm=>(List.mem_or_eq_of_mem_set hm).symm;have hmap:(Es.set i {d with us:=us}).map (·.y)=Es.map (·.y):=z27 hd rfl
 have hy:∀d'∈Es.set i {d with us:=us},d'≠{d with us:=us}→d'.y≠d.y:=fun d' hm hne e=>by
  obtain⟨k,hk,rfl⟩:=List.mem_iff_getElem.1 hm;have hk2:k<Es.length:=by simpa using hk
  by_cases hki:k=i
  ·subst hki
   exact hne (by rw[List.getElem_set_self])
  ·rw[List.getElem_set_ne (fun e=>hki e.symm)]at e
   have hnd:=h.k.c.rfew.2;rw[←h.r.y]at hnd
   have e2:(Es.map (·.y))[k]'(by simpa using hk2)=(Es.map (·.y))[i]'(by simpa using hi):=by
    rw[List.getElem_map,List.getElem_map,hd',e]
   exact hki ((List.getElem_inj hnd).1 e2)
 refine⟨he,⟨⟨c2,dW,h.k.ok,h.k.hD⟩,⟨hmap.trans h.r.y,fun d' hm'=> ?_⟩,⟨fun y hy=> ?_,fun y hy=> ?_,fun y hy z hz=> ?_⟩,fun y hy=> ?_,h.c,fun d' hm'=> ?_⟩,n2⟩
 ·show d'.p=(up g.d d.y {g.d d.y with used:=us} d'.y).name∧d'.ty=(up g.d d.y {g.d d.y with used:=us} d'.y).typ
  rcases hm d' hm' with e|e
  ·subst e
   rw[show({d with us:=us}:ED).y=d.y from rfl,zf1];exact h.r.f d (List.mem_of_getElem? hd)
  ·have:=h.r.f d' e
   by_cases e2:d'.y=d.y
   ·rw[e2,zf1];rw[e2]at this;exact this
   ·rw[zf2 _ _ e2];exact this
 ·have:=h.h.ok y hy
  show(up g.d d.y {g.d d.y with used:=us} y).name=0∨(up g.d d.y {g.d d.y with used:=us} y).name∈l;by_cases e2:y=d.y
  ·rw[e2,zf1];rw[e2]at this;exact this
  ·rw[zf2 _ _ e2];exact this
 ·have:=h.h.hs y hy
  show(up g.d d.y {g.d d.y with used:=us} y).hash=keyH (HN (nm (up g.d d.y {g.d d.y with used:=us} y).name)) (up g.d d.y {g.d d.y with used:=us} y).typ;by_cases e2:y=d.y
  ·rw[e2,zf1];rw[e2]at this;exact this
  ·rw[zf2 _ _ e2];exact this
 ·have hu:∀z,(up g.d d.y {g.d d.y with used:=us} z).name=(g.d z).name∧(up g.d d.y {g.d d.y with used:=us} z).typ=(g.d z).typ:=fun z=>by
   by_cases e2:z=d.y
   ·rw[e2,zf1];exact⟨rfl,rfl⟩
   ·rw[zf2 _ _ e2];exact⟨rfl,rfl⟩
  show(up g.d d.y {g.d d.y with used:=us} y).name=(up g.d d.y {g.d d.y with used:=us} z).name→(up g.d d.y {g.d d.y with used:=us} y).typ=(up g.d d.y {g.d d.y with used:=us} z).typ→y=z;rw[(hu y).1,(hu z).1,(hu y).2,(hu z).2];exact h.h.one y hy z hz
 ·rw[h.o y hy]
  show g.R.countP _=g.R.countP (fun z=>(up g.d d.y {g.d d.y with used:=us} z).name==y)
  exact z2u (fun z _=>by
   by_cases e2:z=d.y
   ·rw[e2,zf1]
   ·rw[zf2 _ _ e2])
 ·show d'.en=(up g.d d.y {g.d d.y with used:=us} d'.y).expiry∧d'.us=(up g.d d.y {g.d d.y with used:=us} d'.y).used∧_
  by_cases e:d'={d with us:=us}
  ·subst e
   obtain⟨h1,_,Ls,h3,h4,h5,h6⟩:=h.d d (List.mem_of_getElem? hd);rw[show({d with us:=us}:ED).y=d.y from rfl,zf1];exact⟨h1,rfl,Ls,h3,h4,h5,h6.nk n2⟩
  ·have hne:=hy d' hm' e
   obtain⟨h1,h2,Ls,h3,h4,h5,h6⟩:=h.d d' ((hm d' hm').resolve_left e);rw[zf2 _ _ hne];exact⟨h1,h2,Ls,h3,h4,h5,h6.nk n2⟩
end
section
variable{wa w W V:World}{q:MH}{base p pn pr fr fr1 x name typ ex b:Nat}{D D' l l1 R:List Nat}{g:EW}{par own par1:Nat→Nat}{nm nm1:Nat→List (List Nat)}{Es:List ED}{L Ls:List (List Nat)}{ad:Option Addr}
theorem z4g{i:Nat}{d d':ED}(hnd:(Es.map (·.y)).Nodup)(hd:Es[i]?=some d)(hy:d'.y=d.y):(Es.set i d').map (·.y)=Es.map (·.y)∧∀e∈Es.set i d',e=d'∨(e∈Es∧e.y≠d.y):=by
 obtain⟨hi,hd'⟩:=List.getElem?_eq_some_iff.1 hd;refine⟨z27 hd hy,fun e hm=> ?_⟩;obtain⟨k,hk,rfl⟩:=List.mem_iff_getElem.1 hm;have hk2:k<Es.length:=by simpa using hk
 by_cases hki:k=i
 ·subst hki
  exact .inl (by rw[List.getElem_set_self])
 ·right
  rw[List.getElem_set_ne (fun e=>hki e.symm)];refine⟨List.getElem_mem hk2,fun e=> ?_⟩
  have e2:(Es.map (·.y))[k]'(by simpa using hk2)=(Es.map (·.y))[i]'(by simpa using hi):=by
   rw[List.getElem_map,List.getElem_map,hd',e]
  exact hki ((List.getElem_inj hnd).1 e2)
theorem PE.swap(h:PE wa q base p pn pr D g l par own nm fr Es W)(n:Nk q D W D V){i:Nat}{d d':ED}(hd:Es[i]?=some d)(e1:d'.y=d.y)(e2:d'.p=d.p)(e3:d'.ty=d.ty)(e4:d'.en=d.en)(e5:d'.us=d.us)(hG:GoodR Ls)
  (c:CP wa q (g.put d.y (zqj Ls)) l par own nm fr V) (dV:DE V p pn pr D (Es.set i d') g.R g.b l par own nm) (hn:d'.n=Ls.length) (hr:RecD q D V d'.ad Ls):PE wa q base p pn pr D (g.put d.y (zqj Ls)) l par own nm fr (Es.set i d') V:=by
 have hnd:=h.k.c.rfew.2;rw[←h.r.y]at hnd;obtain⟨hmap,hm⟩:=z4g hnd hd e1;have hdm:=List.mem_of_getElem? hd;refine⟨⟨c,dV,h.k.ok,h.k.hD⟩,⟨hmap.trans h.r.y,fun e he=> ?_⟩,⟨h.h.ok,h.h.hs,h.h.one⟩,h.o,h.c,fun e he=> ?_⟩
 ·rcases hm e he with rfl|⟨k,_⟩
  ·rw[e1,e2,e3];exact h.r.f d hdm
  ·exact h.r.f e k
 ·show e.en=(g.d e.y).expiry∧e.us=(g.d e.y).used∧∃Ls',GoodR Ls'∧up g.p d.y (zqj Ls) e.y=zqj Ls'∧e.n=Ls'.length∧RecD q D V e.ad Ls'
  rcases hm e he with rfl|⟨k,hne⟩
  ·obtain⟨h1,h2,-⟩:=h.d d hdm
   rw[e1,e4,e5,zf1];exact⟨h1,h2,Ls,hG,rfl,hn,hr⟩
  ·obtain⟨h1,h2,L1,h3,h4,h5,h6⟩:=h.d e k
   rw[zf2 _ _ hne];exact⟨h1,h2,L1,h3,h4,h5,h6.nk n⟩
def PtE(wa:World)(q:MH)(base p pn pr:Nat)(D:List Nat)(w:World)(e:Ending)(w':World):Prop:=(∃z:Nat,e= .returned (.tuple #[z,true]))∧ ∃D' g l par own nm fr Es,Nk q D w D' w'∧PE wa q base p pn pr D' g l par own nm fr Es w'
theorem z4h{P:Nat→Prop}(kz:Nat)(h:PE wa q base p pn pr D g l par own nm fr Es w)(ad:Option Addr)(cap:Nat)(L:List (List Nat))(hA:StrA w ad L)(hAq:0<L.length→∀gb o,ad=some ⟨gb,o,none⟩→gb∉q.blocks∧gb∉D)(hb:zzj L≤1131)(hl:L.length≤130)
  (adr:Option Addr) (capr:Nat) (Ls:List (List Nat)) (hRA:RecA P w adr Ls) (ht:typ<65536) (hex:ex<18446744073709551616):
  Calls prog 17 #[kz,q,some p,.slice ad L.length cap,.int .u16 typ,.int .u64 ex,.slice adr Ls.length capr] w (PtE wa q base p pn pr D w):=by
 refine(z2p kz h.k h.r h.h ad cap L hA hAq hb hl (fun y=> ?_) adr capr Ls hRA ht hex).mono fun e w' hh=> ?_
 ·by_cases h0:y=0
  ·by_cases hm:y∈l
   ·exact absurd h0 (h.k.c.rng hm).1
   ·have:=h.k.c.out hm;omega
  ·have:=h.o y h0
   have:=List.countP_le_length (p:=fun z=>(g.d z).name==y) (l:=g.R);have:=h.k.c.rfew.1;omega
 ·obtain⟨D',n,⟨rfl,-,fr1,k2⟩|⟨x,name,l1,par1,nm1,fr1,ad1,cp1,rfl,⟨_,_,hxR,_⟩,hGd,hck,hname,hnm,hsub,hna,hfi,hrec,k2⟩⟩:=hh
  ·exact⟨⟨0,rfl⟩,D',g,l,par,own,nm,fr1,Es,n,h.keep n k2⟩
  ·exact⟨⟨x,rfl⟩,D',_,_,_,_,_,_,_,n,h.add n hxR hGd hck hname hnm hsub hna hfi hrec hRA.byte k2⟩
end
theorem z4i{P:Nat→Prop}(W:World)(L:List (List Nat))(ad:Option Addr)(cap:Nat)(h:RecA P W ad L)(h1:1≤L.length)(hL:L.length≤1000):∃g o gl cl w' cs,ad=some ⟨g,o,none⟩∧(Builtin.append_ #[34,34] 34 #[.slice (some ⟨W.heap.size,0,none⟩) 0 0,.slice ad L.length cap]).run prog (W.alloc (.cells #[] 49))= .ok (.slice (some ⟨gl,0,none⟩) L.length cl) w'∧W.heap.size≤gl∧L.length≤cl∧Blk w' gl 49 cs∧(∀i,i<L.length→cs[i]?=W.cell? ⟨g,o+i,none⟩)∧Fr [] W w':=by
 obtain⟨i0,hi,hz0,hz1,hz2⟩:=zri;obtain⟨g,o,a,c,e,_,_,k3,-⟩:=h.at_ 0 (by omega);subst e
 have hc:∀i,i<L.length→∃u,W.cell? ⟨g,o+i,none⟩=some u∧u.oneCell'=true:=fun i hi=>by
  obtain⟨g',o',a,c,e,k1,-⟩:=h.at_ i hi;injection e with e;injection e with e1 e2;subst e1 e2;exact⟨_,k1,rfl⟩
 obtain⟨news,hn⟩:∃news,(List.range L.length).map (fun i=>(W.cell? ⟨g,o+i,none⟩).getD undef)=news:=⟨_,rfl⟩;have hnl:news.length=L.length:=by rw[←hn];simp
 have hng:∀i,i<L.length→news[i]?=W.cell? ⟨g,o+i,none⟩:=fun i hi=>by
  obtain⟨u,hu,_⟩:=hc i hi;rw[←hn,List.getElem?_map,List.getElem?_range hi,hu,Option.map_some,hu];rfl
 have hown:(W.alloc (.cells #[] 49)).ownsRow W.heap.size 49 1 (.slice (some ⟨W.heap.size,0,none⟩) 0 0) 0 [] :=⟨rfl,.inr ⟨_,0,#[],rfl,Nat.le_refl _,Blk.new _ _ _,Nat.le_refl _,by unfold maxLen;omega,rfl,rfl⟩⟩;have hadd:∀g o n:Nat,(⟨g,o,none⟩:Addr).add n=⟨g,o+n,none⟩:=fun g o n=>by unfold Addr.add;split<;>simp_all
 have fa:Fr [] W (W.alloc (.cells #[] 49)):=(Fr.refl [] W).alloc _
 obtain⟨v',w',hrun,h2,h3,_,h5⟩:=run_append_own_at (P:=prog) (W.alloc (.cells #[] 49)) W.heap.size 34 34 49 i0 (.slice none 0 0) 1 24 underlying34 hi hz0 hz1 hz2 rfl (by decide) _ 0 [] hown ⟨g,o,none⟩ L.length cap news (by simp[hnl]) (fun j u hu=>by
  have hj:j<L.length:=by
   rcases Nat.lt_or_ge j L.length with h|h
   ·exact h
   ·rw[List.getElem?_eq_none (by omega)]at hu;cases hu
  rw[hadd,fa.cell (p:=⟨g,o+j,none⟩) k3 (by simp),←hng j hj];exact hu) (fun u hu=>by
  obtain⟨j,hj,rfl⟩:=List.mem_iff_getElem.1 hu;have hj':j<L.length:=by omega
  obtain⟨u,hu,h1⟩:=hc j hj';have:=hng j hj';rw[List.getElem?_eq_getElem hj,hu]at this;rw[Option.some.inj this];exact h1) (by unfold maxLen;omega) (by omega) (by rw[World.size_alloc];omega)
 obtain⟨_,⟨rfl,h0⟩|⟨gl,cl,cur,rfl,hb,hg,hc1,hc2,hs,ht⟩⟩:=h2
 ·omega
 rw[Nat.zero_add]at hrun hc1 ht;refine⟨g,o,gl,cl,w',cur,rfl,hrun,hb,hc1,hg,fun i hi=> ?_,fa.step (Fr.of_grown h3 (S:= [W.heap.size]) (fun g e=>by simp[Value.ownBlock]at e;simp[e])) (fun k hk=>by simp at hk;exact .inr (by omega))⟩;have e1:(cur.toList.take (L.length*1))[i]?=([] ++news)[i]?:=by rw[ht]
 rw[List.getElem?_take,if_pos (by omega),List.nil_append,hng i hi]at e1;rw[←Array.getElem?_toList,e1]
theorem z4j(X:World)(tb h pp m c:Nat)(s:List Nat)(hb:Byt X (some ⟨h,pp,none⟩) s)(hm:s.length=m)(h0:0<m)(hm3:m≤3000)(htb:tb<256)(hmc:m≤c):∃gt ct w',(Builtin.append_ #[49,49] 49 #[.slice (some ⟨X.heap.size,0,none⟩) 1 1,.slice (if c-1=0 then some ⟨h,pp,none⟩else some ⟨h,pp+1,none⟩) (m-1) (c-1)]).run prog (X.alloc (.cells #[.int .u8 (tb:Int)] 5)).drew= .ok (.slice (some ⟨gt,0,none⟩) m ct) w'∧OwnB w' X.heap.size (.slice (some ⟨gt,0,none⟩) m ct) (s.set 0 tb)∧Fr [] X w':=by
 have fa:Fr [] X (X.alloc (.cells #[.int .u8 (tb:Int)] 5)).drew:=((Fr.refl [] X).alloc _).drew;have hO:OwnB (X.alloc (.cells #[.int .u8 (tb:Int)] 5)).drew X.heap.size (.slice (some ⟨X.heap.size,0,none⟩) 1 1) [tb] :=OwnB.made (l:= [tb]) (Nat.le_refl _) ((Blk.new X 5 #[.int .u8 (tb:Int)]).drew) (by unfold maxLen;simp)
 have hby:Byt (X.alloc (.cells #[.int .u8 (tb:Int)] 5)).drew (if c-1=0 then some ⟨h,pp,none⟩else some ⟨h,pp+1,none⟩) (s.drop 1):=by
  by_cases e:c-1=0
  ·rw[if_pos e,List.drop_eq_nil_of_le (by omega)]
   exact⟨fun i hi=>by simp at hi,by simp,by simp⟩
  ·rw[if_neg e]
   have:=(hb.fr fa (by simp)).part 1 (m-1) (pp+1) (by omega) (fun _=>rfl);rwa[List.take_of_length_le (by simp;omega)]at this
 obtain⟨v',w',hrun,hO',hg,-⟩:=zbf _ _ _ _ hO _ (c-1) _ hby (by simp;omega) fa.size
 have hse: [tb] ++s.drop 1=s.set 0 tb:=by
  cases s with
  |nil=>simp at hm;omega
  |cons a s=>rfl
 rw[hse]at hO';rw[show(s.drop 1).length=m-1 from by simp;omega]at hrun;have hO2:=hO';obtain⟨_,⟨rfl,e⟩|⟨gt,ct,cur,rfl,-⟩⟩:=hO'
 ·rw[List.length_set,hm]at e;omega
 rw[show(s.set 0 tb).length=m from by simp[hm]]at hrun hO2;exact⟨gt,ct,w',hrun,hO2,fa.step (Fr.of_grown hg (S:= [X.heap.size]) (fun g e=>by simp[Value.ownBlock]at e;simp[e])) (fun k hk=>by simp at hk;exact .inr (by omega))⟩
theorem RecD.set{q:MH}{D:List Nat}{W5 W8:World}{g0 o0 gl gt ct k:Nat}{Ls:List (List Nat)}{x:List Nat}{cs:Array Value}(h:RecD q D W5 (some ⟨g0,o0,none⟩) Ls)(hq:∀k∈q.blocks,k<W5.heap.size)(hD:∀k∈D,k<W5.heap.size)(hf:Fr [] W5 W8)(hk:k<Ls.length)(hgl:W5.heap.size≤gl)(hB:Blk W8 gl 49 cs)
  (hcs:∀i,i<Ls.length→i≠k→cs[i]?=W5.cell? ⟨g0,o0+i,none⟩) (hck:cs[k]?=some (.slice (some ⟨gt,0,none⟩) x.length ct)) (hgt:W5.heap.size≤gt∧gt<W8.heap.size) (hby:Byt W8 (some ⟨gt,0,none⟩) x) (hct:x.length≤ct):RecD q D W8 (some ⟨gl,0,none⟩) (Ls.set k x):=by
 have hRD:∀{z:Nat},W5.heap.size≤z→z<W8.heap.size→RD q D W8 z:=fun{z} h1 h2=>⟨fun hm=>by have:=hq _ hm;omega,fun hm=>by have:=hD _ hm;omega,h2⟩;have nk:Nk q D W5 D W8:=Nk.of0 hf;have hglt:gl<W8.heap.size:=Blk.lt hB;refine⟨⟨fun i hi=> ?_,by rw[List.length_set];exact h.a.len⟩,fun i hi g o a m c e hc=> ?_⟩
 ·rw[List.length_set]at hi
  refine⟨gl,0,?_⟩;rw[Nat.zero_add,Blk.cell hB,List.getElem?_set];by_cases e:k=i
  ·subst e
   rw[if_pos rfl,if_pos hk,Option.getD_some];exact⟨_,ct,rfl,hck,hby,hglt,hRD hgl hglt,fun h p e=>by injection e with e;injection e with e;subst e;exact hRD hgt.1 hgt.2⟩
  ·rw[if_neg e]
   obtain⟨g',o',a,c,e',h1,h2,h3,h4,h5⟩:=h.a.at_ i hi;injection e' with e';injection e' with e1 e2;subst e1 e2;exact⟨a,c,rfl,(hcs i hi (fun k=>e k.symm)).trans h1,h2.fr hf (by simp),hglt,hRD hgl hglt,fun h p e=>(h5 h p e).nk nk⟩
 ·rw[List.length_set]at hi
  injection e with e;injection e with e1 e2;subst e1 e2;rw[Nat.zero_add,Blk.cell hB]at hc;by_cases e:i=k
  ·subst e
   rw[hck]at hc;injection hc with hc;injection hc with _ e1 e2;omega
  ·exact h.c i hi g0 o0 a m c rfl ((hcs i hi e).symm.trans hc)
section
variable{w:World}{p pn pr b:Nat}{D l R:List Nat}{par own:Nat→Nat}{nm:Nat→List (List Nat)}{Es:List ED}
def z4k(Es:List ED)(e:Ending):Prop:=(Es= [] ∧e= .returned (0:Int))∨ ∃(i:Nat) (d:ED),Es[i]?=some d∧e= .returned d.y
theorem z4l(h:DE w p pn pr D Es R b l par own nm)(hl:Es.length≤1000)(od:Int):Calls prog 25 #[some p,od] w fun e w'=>z4k Es e∧w'=w:=by
 obtain⟨vE,vN,ad,cap,h⟩:=h;obtain⟨adE,capE,rfl,hrw⟩:=h.e.row;have hst:=h.e.st.cell 0;simp only[List.getElem?_toArray,List.getElem?_cons_zero]at hst;by_cases h0:Es.length=0
 ·have he:Es= [] :=List.length_eq_zero_iff.1 h0
  rw[h0]at hst;clear h hrw h0 hl;go_enter func25,ntmps25;go_wp2_with fail;go_ret;exact⟨.inl ⟨he,rfl⟩,rfl⟩
 ·obtain⟨g,rfl,hpg,hr⟩:=hrw (by omega)
  have hn0:0<Es.length:=by omega
  have hk:=zb0 od Es.length hn0;have hgd:=List.getElem?_eq_getElem hk;obtain⟨y0,-⟩:=hr.six hgd;have HX:=hid (show z4k Es (.returned (.int .i64 (Es[nthZ od Es.length]'hk).y))from .inr ⟨_,_,hgd,rfl⟩);generalize(Es[nthZ od Es.length]'hk).y=yy at*;obtain⟨n,hn⟩:∃n,Es.length=n:=⟨_,rfl⟩;rw[hn]at hk hst hl hn0 y0;obtain⟨t1,t2⟩:=zb2 od n hn0 (by omega);have hmx:max (od.tmod n) (-(od.tmod n))=((nthZ od n:Nat):Int):=zb1 od n;obtain⟨r,hr'⟩:∃r,od.tmod (n:Int)=r:=⟨_,rfl⟩;rw[hr']at t1 t2 hmx;generalize nthZ od n=k at*;have b0:((n:Int)==0)=false:=by simp;omega
  have b0':(n==0)=false:=by simp;omega
  have i0:(0:Int)≤k:=by omega
  have i1:(k:Int)<n:=by omega
  clear h hr hrw hgd hn hpg h0;go_enter func25,ntmps25;go_wp2_with fail;go_ret;exact⟨HX.out,rfl⟩
end
section
variable{wa w W V:World}{q:MH}{base p pn pr fr x:Nat}{D D' l A C R:List Nat}{g:EW}{par own:Nat→Nat}{nm:Nat→List (List Nat)}{Es:List ED}
def AcP(wa:World)(q:MH)(base p pn pr:Nat)(D:List Nat)(w:World)(e:Ending)(w':World):Prop:=e= .returned true∧ ∃D' g l par own nm fr Es,Nk q D w D' w'∧PE wa q base p pn pr D' g l par own nm fr Es w'
theorem PE.few(h:PE wa q base p pn pr D g l par own nm fr Es W):Es.length≤224:=by
 have e:Es.length=g.R.length:=by rw[←h.r.y,List.length_map]
 have:=h.k.c.rfew.1;omega
theorem PE.nil(h:PE wa q base p pn pr D g l par own nm fr Es W)(he:Es= []):g.R= [] :=by rw[←h.r.y,he];rfl
theorem z4m(h:CP wa q g l par own nm fr W):∃u,IsH W q u∧EGet q u 0 zHB none 0 30∧∀V,IsH V q u→Fr q.blocks W V→CP wa q g l par own nm fr V:=by
 obtain⟨u,h1,h2,_⟩:=h.kd;exact⟨u,h1,zyh 0 (by rw[zvu h1.m.ok];decide) (by rw[zvu h1.m.ok];decide),h2⟩
theorem z4n(h:PE wa q base p pn pr D g l par own nm fr Es w)(k n:Int)(hk:k=3∨k=4)(a1:Option Addr)(n1 c1 ty en:Nat)(a2:Option Addr)(n2 c2:Nat):Calls prog 9 #[q,some p,.agg #[k,n,.slice a1 n1 c1,.int .u16 ty,.int .u64 en,.slice a2 n2 c2]] w (AcP wa q base p pn pr D w):=by
 have f0:Fr [] w (w.alloc (.cells #[k,n,.slice a1 n1 c1,.int .u16 ty,.int .u64 en,.slice a2 n2 c2] 36)):=(Fr.refl [] w).alloc _;have h0:=h.fr0 f0;have HP:=hid (z4l h0.k.d (by have:=h0.few;omega) n);have B0:=Blk.new w 36 #[.int .i64 k,.int .i64 n,.slice a1 n1 c1,.int .u16 ty,.int .u64 en,.slice a2 n2 c2];clear h;generalize hW:w.alloc (.cells #[k,n,.slice a1 n1 c1,.int .u16 ty,.int .u64 en,.slice a2 n2 c2] 36)=W0 at*;have hd0:=B0.cell;go_in;go_wp2_with fail;go_call HP.out as e w1 ⟨hpk,hw⟩;have hw:=hw.symm;subst hw;clear HP hW;rcases hpk with⟨he,rfl⟩|⟨i,d,hd,rfl⟩
 ·have hR:=h0.nil he
  obtain⟨u,hI,hG,HM⟩:=z4m h0.k.c;have HR:=hid (z34 hI hG);have HX:=hid (fun V (hV:PE wa q base p pn pr D g l par own nm fr Es V)=>(show Calls prog 27 #[some p,(0:Int)] V _ from z4d (x:=0) hV (by rw[hR];simp)));have HM:=hid HM;clear hI hG he hR;rcases hk with rfl|rfl
  all_goals
   go_wp2_with fail;go_call HR.out as e w2 ⟨rfl,k2,f2⟩;have P2:=h0.mem f2 (HM.out _ k2 f2);have N2:=hid ((Nk.of0 (D:=D) f0).trans (Nk.ofQ f2));have hx:=HX.out _ P2;clear k2 f2;go_wp2_with fail;go_call hx as e w3 ⟨rfl,hw3⟩;have hw3:=hw3.symm;subst hw3;go_wp2;go_ret;exact⟨rfl,D,_,_,_,_,_,_,_,N2.out,P2⟩
 ·have hxR:d.y∈g.R:=h0.r.in_.2 ⟨d,List.mem_of_getElem? hd,rfl⟩
  obtain⟨A,C,hR⟩:=List.append_of_mem hxR;have HR:=hid (z4c h0 hR);generalize d.y=x at*;clear hxR hd;rcases hk with rfl|rfl
  all_goals
   go_wp2_with fail;go_call HR.out as e w2 ⟨m,l2,own2,fr2,rfl,f2,hx⟩;have hx2:=hx w2 (Fr.refl [] w2);have N2:=hid ((Nk.of0 (D:=D) f0).trans (Nk.ofQ f2));clear f2 hx;go_wp2_with fail;go_call hx2 as e w3 ⟨rfl,D3,Es3,n3,h3⟩;have H3:=hid (And.intro (N2.trans n3) h3);clear n3 h3 hx2;go_wp2;go_ret;exact⟨rfl,D3,_,_,_,_,_,_,_,H3.out⟩
end
section
variable{wa w:World}{q:MH}{base p pn pr fr x:Nat}{D l:List Nat}{g:EW}{par own:Nat→Nat}{nm:Nat→List (List Nat)}{Es:List ED}{ad:Option Addr}
theorem z4o(h:PE wa q base p pn pr D g l par own nm fr Es w)(n:Int)(a1:Option Addr)(n1 c1 ty en:Nat)(hty:ty<65536)(a2:Option Addr)(n2 c2:Nat):Calls prog 9 #[q,some p,.agg #[(5:Int),n,.slice a1 n1 c1,.int .u16 ty,.int .u64 en,.slice a2 n2 c2]] w (AcP wa q base p pn pr D w):=by
 have f0:Fr [] w (w.alloc (.cells #[(5:Int),n,.slice a1 n1 c1,.int .u16 ty,.int .u64 en,.slice a2 n2 c2] 36)):=(Fr.refl [] w).alloc _;have h0:=h.fr0 f0;have HP:=hid (z4l h0.k.d (by have:=h0.few;omega) n);have B0:=Blk.new w 36 #[.int .i64 5,.int .i64 n,.slice a1 n1 c1,.int .u16 ty,.int .u64 en,.slice a2 n2 c2];have HDl:=hid (show∀k∈D,k<w.heap.size from h.k.d.lt);obtain⟨us,hus⟩:∃us,(ty %2==1)=us:=⟨_,rfl⟩;have e1:((ty:Int) %2==1)=us:=by rw[←hus,Bool.eq_iff_iff,beq_iff_eq,beq_iff_eq];omega
 have e2:((ty:Int).tmod 2==1)=us:=by rw[Int.tmod_eq_emod_of_nonneg (by omega)];exact e1
 have w2:IntKind.u16.wrap ((ty:Int).tmod 2)=(ty:Int).tmod 2:=IntWalk.u16_in _ (by rw[Int.tmod_eq_emod_of_nonneg (by omega)];omega);have w3:IntKind.u16.wrap ((ty:Int) %2)=(ty:Int) %2:=IntWalk.u16_in _ (by omega);clear h;generalize hW:w.alloc (.cells #[(5:Int),n,.slice a1 n1 c1,.int .u16 ty,.int .u64 en,.slice a2 n2 c2] 36)=W0 at*;have hd0:=B0.cell;go_in;go_wp2_with fail;go_call HP.out as e w1 ⟨hpk,hw⟩;have hw:=hw.symm;subst hw;clear HP hW;rcases hpk with⟨he,rfl⟩|⟨i,d,hd,rfl⟩
 ·obtain⟨u,hI,hG,HM⟩:=z4m h0.k.c
  have HR:=hid (z35 hI hG us)
  have HA:=hid (show Calls prog 28 #[some p,(0:Int)] W0 fun e w'=>AtE Es 0 e∧w'=W0 from by
   obtain⟨vE,vN,ad,cap,h⟩:=h0.k.d;exact xeat h.e (by have:=h0.few;omega) 0)
  have HM:=hid HM;have HE:=hid he;clear hI hG he;go_wp2_with fail;go_call HA.out as e w2 ⟨⟨i,d,rfl,hd,hy⟩|⟨rfl,hno⟩,hw2⟩
  ·rw[HE.out]at hd;cases hd
  have hw2:=hw2.symm;subst hw2;clear hno HA;go_wp2_with fail;go_call HR.out as e w2 ⟨rfl,k2,f2⟩;have P2:=h0.mem f2 (HM.out _ k2 f2);have N2:=(Nk.of0 (D:=D) f0).trans (Nk.ofQ f2);clear k2 f2;go_wp2;go_ret;exact⟨rfl,D,_,_,_,_,_,_,_,N2,P2⟩
 ·have HA:=hid (show Calls prog 28 #[some p,d.y] W0 fun e w'=>AtE Es d.y e∧w'=W0 from by
   obtain⟨vE,vN,ad,cap,h⟩:=h0.k.d;exact xeat h.e (by have:=h0.few;omega) d.y)
  have HDm:=hid (List.mem_of_getElem? hd);clear hd;go_wp2_with fail;go_call HA.out as e w2 ⟨⟨j,d2,rfl,hd,hy⟩|⟨rfl,hno⟩,hw2⟩
  ·have hw2:=hw2.symm
   subst hw2;obtain⟨ge,cap,hge,c0,cc,zc,hj,hcap,hDE⟩:=h0.k.d.cellE (j:=5) (d':={d2 with us:=us}) (u:= .bool us) hd (by decide) rfl;obtain⟨n1',hUse⟩:=z4f h0 us hd ⟨ge,rfl,hge⟩ hDE;have HU:=hid (hUse _ (Fr.refl [] _).drew);rw[hy]at HU;have c5:W0.cell? ⟨ge,j*6+5,none⟩=some (.bool d2.us):=cc 5 (by decide);have hgl:ge≠w.heap.size:=Nat.ne_of_lt (HDl.out ge hge);have hd1:=(B0.far (p:=⟨ge,j*6+5,none⟩) (fun e=>hgl e.symm) (.bool us)).drew.cell;have i0:(0:Int)≤j:=by omega
   have i1:(j:Int)<Es.length:=by omega
   generalize Es.length=nE at*;generalize d.y=x at*;clear hUse hDE n1' hd hy HA cc;go_wp2_with fail;go_region;go_wp2_with fail;go_call HU.out as e w3 ⟨rfl,h3,n3⟩;have H3:=hid (And.intro ((Nk.of0 (D:=D) f0).trans n3) h3);clear h3 n3 HU;go_wp2;go_ret;exact⟨rfl,D,_,_,_,_,_,_,_,H3.out⟩
  ·exact absurd rfl (hno d HDm.out)
end
section
variable{wa w W V:World}{q:MH}{base p pn pr fr x name b ty:Nat}{D l R:List Nat}{g:EW}{par own:Nat→Nat}{nm:Nat→List (List Nat)}{Es:List ED}{ad:Option Addr}
theorem z4p(h:PE wa q base p pn pr D g l par own nm fr Es W){e:Ending}(hp:z4k Es e):∃(x k:Nat),e= .returned x∧(k=0∨k∈l)∧∀V,CP wa q g l par own nm fr V→Calls prog 30 #[q,x] V (zR k fun w'=>CP wa q g l par own nm fr w'∧Fr q.blocks V w'):=by
 rcases hp with⟨_,rfl⟩|⟨i,d,hd,rfl⟩
 ·refine⟨0,0,rfl,.inl rfl,fun V hV=> ?_⟩
  obtain⟨u,hI,hG,HM⟩:=z4m hV;exact(zyj hI hG (by decide)).mono fun e w' ⟨a,b,c⟩=>⟨a,HM _ b c,c⟩
 ·have hx:d.y∈g.R:=h.r.in_.2 ⟨d,List.mem_of_getElem? hd,rfl⟩
  exact⟨d.y,(g.d d.y).name,rfl,h.h.ok _ hx,fun V hV=>z0s hV hx⟩
theorem z4q(h:PE wa q base p pn pr D g l par own nm fr Es W){k:Nat}{e:Ending}(hf:FndE Es k ty e):e= .returned (ansN (g.R.find? (zyq g.d k ty))):=by
 cases hz:g.R.find? (zyq g.d k ty)with
 |none=>
  rcases hf with⟨i,d,rfl,hd,h1,h2⟩|⟨rfl,_⟩
  ·exact absurd h2 (h.r.none hz d (List.mem_of_getElem? hd) h1)
  ·rfl
 |some z=>
  have hzR:=List.mem_of_find?_eq_some hz;obtain⟨k1,k2⟩:=isKey_iff.1 (List.find?_some hz);rcases hf with⟨i,d,rfl,hd,h1,h2⟩|⟨rfl,hno⟩
  ·have hdm:=List.mem_of_getElem? hd
   have hf:=h.r.f d hdm;have:d.y=z:=h.h.one _ (h.r.in_.2 ⟨d,hdm,rfl⟩) _ hzR (by rw[k1,←h1,hf.1]) (by rw[k2,←h2,hf.2]);rw[this];rfl
  ·obtain⟨d,hd,e1⟩:=h.r.in_.1 hzR
   have hf:=h.r.f d hd;rw[e1]at hf;exact absurd (hf.2.trans k2) (hno d hd (hf.1.trans k1))
theorem z4r(h:PE wa q base p pn pr D g l par own nm fr Es w)(n:Int)(a1:Option Addr)(n1 c1 ty en:Nat)(hty:ty<65536)(a2:Option Addr)(n2 c2:Nat):Calls prog 9 #[q,some p,.agg #[(6:Int),n,.slice a1 n1 c1,.int .u16 ty,.int .u64 en,.slice a2 n2 c2]] w (AcP wa q base p pn pr D w):=by
 have f0:Fr [] w (w.alloc (.cells #[(6:Int),n,.slice a1 n1 c1,.int .u16 ty,.int .u64 en,.slice a2 n2 c2] 36)):=(Fr.refl [] w).alloc _;have h0:=h.fr0 f0;have HP:=hid (z4l h0.k.d (by have:=h0.few;omega) n);have B0:=Blk.new w 36 #[.int .i64 6,.int .i64 n,.slice a1 n1 c1,.int .u16 ty,.int .u64 en,.slice a2 n2 c2];have HQ:=hid (show w.heap.size∉q.blocks from fun hm=>by have:=h.k.c.bok.q _ hm;omega);clear h;generalize hW:w.alloc (.cells #[(6:Int),n,.slice a1 n1 c1,.int .u16 ty,.int .u64 en,.slice a2 n2 c2] 36)=W0 at*;have hd0:=B0.cell;go_in;go_wp2_with fail;go_call HP.out as e w1 ⟨hpk,hw⟩;have hw:=hw.symm;subst hw;clear HP hW;obtain⟨x,k,rfl,hk,HH⟩:=z4p h0 hpk;have HH:=hid HH;have HF:=hid (fun V (hV:CP wa q g l par own nm fr V)=>z2r hV h0.h hk hty)
 have HX:=hid (fun V (hV:PE wa q base p pn pr D g l par own nm fr Es V)=>(show Calls prog 31 #[some p,k,.int .u16 ty] V (zE (ansN (g.R.find? (zyq g.d k ty))) V)from by
  obtain⟨vE,vN,ad,cap,hh⟩:=hV.k.d;exact(z2b hh.e (by have:=hV.few;omega) k ty).mono fun e w' ⟨h1,h2⟩=>⟨z4q hV h1,h2⟩))
 obtain⟨yv,yb,hans⟩:∃(yv:Nat) (yb:Bool),ansN (g.R.find? (zyq g.d k ty))= .tuple #[yv,yb] :=by
  cases g.R.find? (zyq g.d k ty)with
  |none=>exact⟨0,false,rfl⟩
  |some z=>exact⟨z,true,rfl⟩
 rw[hans]at HF HX;clear hpk hk hans;go_wp2_with fail;have hY:(W0.drew).cell? ⟨w.heap.size,3,none⟩=some (.int .u16 ty):=B0.drew.cell 3;refine wp_region_held_drew (S:=fun W=>W.cell? ⟨w.heap.size,3,none⟩=some (.int .u16 ty)) (by kernel_rfl) (hY) (fun yH=> ?_);refine tkZ 0 ?_;refine tkZ 1 ?_;refine tkZ 2 ?_;refine tkZ 4 ?_;refine tkZ 5 ?_;refine tkC 3 fun K hK=> ?_;go_simp;go_call HH.out _ (h0.k.c.fr0 (Fr.refl [] W0).drew) as e w3 ⟨rfl,k3,f3⟩;have K3:=hid (And.intro k3 ((Fr.refl [] W0).drew.nil.trans f3));have hY:w3.cell? ⟨w.heap.size,3,none⟩=some (.int .u16 ty):=(B0.fr K3.2 HQ.out).cell 3;clear k3 f3;go_wp2_with fail;refine hK.out _ _ _ hY fun yH=> ?_;clear hK K;refine tkC 6 fun K hK=> ?_;go_simp;go_call HF.out _ K3.out.1 as e w6 ⟨rfl,k6,f6⟩;have P6:=h0.mem (K3.2.trans f6) k6;have F6:=K3.2.trans f6;have hY:w6.cell? ⟨w.heap.size,3,none⟩=some (.int .u16 ty):=(B0.fr F6 HQ.out).cell 3;clear k6 f6;go_wp2_with fail;refine hK.out _ _ _ hY fun yH=> ?_;clear hK K;refine tkZ 7 ?_;refine tkZ 8 ?_;refine tkZ 9 ?_;refine tkZ 10 ?_;refine tkZ 11 ?_;refine wpAnyH_done (by kernel_rfl) ?_ _;go_wp2_with fail;have hY:(w6.drew).cell? ⟨w.heap.size,3,none⟩=some (.int .u16 ty):=hY;refine wp_region_held_drew (S:=fun W=>W.cell? ⟨w.heap.size,3,none⟩=some (.int .u16 ty)) (by kernel_rfl) (hY) (fun yH=> ?_);refine tkZ 0 ?_;refine tkZ 1 ?_;refine tkZ 2 ?_;refine tkZ 4 ?_;refine tkZ 5 ?_;refine tkC 3 fun K hK=> ?_;go_simp;go_call HH.out _ (P6.k.c.fr0 (Fr.refl [] w6).drew) as e w7 ⟨rfl,k7,f7⟩;have P7:=P6.mem ((Fr.refl [] w6).drew.nil.trans f7) k7;have F7:=F6.trans ((Fr.refl [] w6).drew.nil.trans f7);have hY:w7.cell? ⟨w.heap.size,3,none⟩=some (.int .u16 ty):=(B0.fr F7 HQ.out).cell 3;clear k7 f7;go_wp2_with fail;refine hK.out _ _ _ hY fun yH=> ?_;clear hK K;refine tkC 6 fun K hK=> ?_;go_simp;go_call HX.out _ P7 as e w8 ⟨rfl,hw8⟩;have hw8:=hw8.symm;subst hw8;go_wp2_with fail;refine hK.out _ _ _ hY fun yH=> ?_;clear hK K;refine tkZ 7 ?_;refine tkZ 8 ?_;refine tkZ 9 ?_;refine tkZ 10 ?_;refine tkZ 11 ?_;refine wpAnyH_done (by kernel_rfl) ?_ _;go_wp2;go_ret;exact⟨rfl,D,_,_,_,_,_,_,_,(Nk.of0 (D:=D) f0).trans (Nk.ofQ F7),P7⟩
end
section
variable{wa w:World}{q:MH}{base p pn pr fr ty:Nat}{D l:List Nat}{g:EW}{par own:Nat→Nat}{nm:Nat→List (List Nat)}{Es:List ED}
theorem z4s(h:PE wa q base p pn pr D g l par own nm fr Es w)(n:Int)(a1:Option Addr)(n1 c1 ty en:Nat)(a2:Option Addr)(n2 c2:Nat):Calls prog 9 #[q,some p,.agg #[(8:Int),n,.slice a1 n1 c1,.int .u16 ty,.int .u64 en,.slice a2 n2 c2]] w (AcP wa q base p pn pr D w):=by
 have f0:Fr [] w (w.alloc (.cells #[(8:Int),n,.slice a1 n1 c1,.int .u16 ty,.int .u64 en,.slice a2 n2 c2] 36)):=(Fr.refl [] w).alloc _;have h0:=h.fr0 f0;have HP:=hid (z4l h0.k.d (by have:=h0.few;omega) n);have B0:=Blk.new w 36 #[.int .i64 8,.int .i64 n,.slice a1 n1 c1,.int .u16 ty,.int .u64 en,.slice a2 n2 c2];have HQ:=hid (show w.heap.size∉q.blocks from fun hm=>by have:=h.k.c.bok.q _ hm;omega);clear h;generalize hW:w.alloc (.cells #[(8:Int),n,.slice a1 n1 c1,.int .u16 ty,.int .u64 en,.slice a2 n2 c2] 36)=W0 at*;have hd0:=B0.cell;go_in;go_wp2_with fail;go_call HP.out as e w1 ⟨hpk,hw⟩;have hw:=hw.symm;subst hw;clear HP hW;obtain⟨u,hI,hM,hK⟩:=h0.k.c.kd;have HK:=hK W0 hI n;generalize hKK:zck u.kinds n 4=K at HK;have HKK:=hid hKK
 obtain⟨yv,rfl⟩:∃yv,e= .returned yv:=by
  rcases hpk with⟨-,rfl⟩|⟨_,_,-,rfl⟩<;>exact⟨_,rfl⟩
 obtain⟨yx,rfl⟩:∃yx:Int,yv= .int .i64 yx:=by
  rcases hpk with⟨-,e⟩|⟨_,_,-,e⟩<;>(injection e with e;exact⟨_,e⟩)
 clear hpk hK hKK;by_cases h5:K=5
 ·have b5:((K:Int)==5)=true:=by simp;omega
  have b5':(K==5)=true:=by simp;omega
  clear h5;go_wp2_with fail;go_call HK as e w2 ⟨rfl,hw2⟩;have hw2:=hw2.symm;subst hw2;go_wp2;go_ret;exact⟨rfl,D,_,_,_,_,_,_,_,Nk.of0 f0,h0⟩
 have b5:((K:Int)==5)=false:=by simp;omega
 have b5':(K==5)=false:=by simp;omega
 by_cases h6:K=6
 ·have b6:((K:Int)==6)=true:=by simp;omega
  have b6':(K==6)=true:=by simp;omega
  clear h5 h6;go_wp2_with fail;go_call HK as e w2 ⟨rfl,hw2⟩;have hw2:=hw2.symm;subst hw2;go_wp2;go_ret;exact⟨rfl,D,_,_,_,_,_,_,_,Nk.of0 f0,h0⟩
 have b6:((K:Int)==6)=false:=by simp;omega
 have b6':(K==6)=false:=by simp;omega
 have HG:=show EGet q u n zHB none 0 30 from zyh n (by rw[HKK.out];exact h5) (by rw[HKK.out];exact h6);clear h5 h6;go_wp2_with fail;go_call HK as e w2 ⟨rfl,hw2⟩;have hw2:=hw2.symm;subst hw2;have hx1:=z32 hI HG;clear HK;go_wp2_with fail;go_call hx1 as e w2 ⟨rfl,k2,f2⟩;have I2:=hid (And.intro k2 f2);have hx2:=z34 k2 HG;have hd2:=(B0.fr f2 HQ.out).cell;clear k2 f2 hx1 hd0;go_wp2_with fail;go_call hx2 as e w3 ⟨rfl,k3,f3⟩;have I3:=hid (And.intro k3 (I2.2.trans f3));have hx3:=z35 k3 HG true;have hd3:=(B0.fr I3.2 HQ.out).cell;clear k3 f3 hx2 hd2;go_wp2_with fail;go_call hx3 as e w4 ⟨rfl,k4,f4⟩;have I4:=hid (And.intro k4 (I3.2.trans f4));have hx4:=(show Calls prog 36 #[q,n] w4 (zR false fun w'=>IsH w' q u∧Fr q.blocks w4 w')from zyi k4 HG);have hd4:=(B0.fr I4.2 HQ.out).cell;clear k4 f4 hx3 hd3;go_wp2_with fail;go_call hx4 as e w5 ⟨rfl,k5,f5⟩;have I5:=hid (And.intro k5 (I4.2.trans f5));have hx5:=(show Calls prog 37 #[q,n] w5 (zR (.int .u64 0) fun w'=>IsH w' q u∧Fr q.blocks w5 w')from eend k5 HG);have hd5:=(B0.fr I5.2 HQ.out).cell;clear k5 f5 hx4 hd4;go_wp2_with fail;go_call hx5 as e w6 ⟨rfl,k6,f6⟩;have I6:=hid (And.intro k6 (I5.2.trans f6));have hx6:=(show Calls prog 30 #[q,n] w6 (zR (0:Int) fun w'=>IsH w' q u∧Fr q.blocks w6 w')from zyj k6 HG (by decide));have hd6:=(B0.fr I6.2 HQ.out).cell;clear k6 f6 hx5 hd5;go_wp2_with fail;go_call hx6 as e w7 ⟨rfl,k7,f7⟩;have F7:=I6.2.trans f7;have P7:=h0.mem F7 (hM _ k7 F7);clear k7 f7 hx6 hd6;go_wp2;go_ret;exact⟨rfl,D,_,_,_,_,_,_,_,(Nk.of0 (D:=D) f0).trans (Nk.ofQ F7),P7⟩
end
section
variable{wa w V:World}{q:MH}{base p pn pr fr ty:Nat}{D l:List Nat}{g:EW}{par own:Nat→Nat}{nm:Nat→List (List Nat)}{Es:List ED}{L Ls:List (List Nat)}
theorem z4t{P:Nat→Prop}(h:PE wa q base p pn pr D g l par own nm fr Es w)(k n:Int)(hk:k≠3∧k≠4∧k≠5∧k≠6∧k≠7∧k≠8)(a1:Option Addr)(c1 ty en:Nat)(L:List (List Nat))(hA:StrA w a1 L)(hAq:0<L.length→∀gb o,a1=some ⟨gb,o,none⟩→gb∉q.blocks∧gb∉D)(hb:zzj L≤1131)(hl:L.length≤130)(hty:ty<65536)(hen:en<18446744073709551616)(a2:Option Addr)(c2:Nat)(Ls:List (List Nat))(hRA:RecA P w a2 Ls):Calls prog 9 #[q,some p,.agg #[k,n,.slice a1 L.length c1,.int .u16 ty,.int .u64 en,.slice a2 Ls.length c2]] w (AcP wa q base p pn pr D w):=by
 have f0:Fr [] w (w.alloc (.cells #[k,n,.slice a1 L.length c1,.int .u16 ty,.int .u64 en,.slice a2 Ls.length c2] 36)):=(Fr.refl [] w).alloc _;have h0:=h.fr0 f0;have HP:=hid (z4l h0.k.d (by have:=h0.few;omega) n);have B0:=Blk.new w 36 #[.int .i64 k,.int .i64 n,.slice a1 L.length c1,.int .u16 ty,.int .u64 en,.slice a2 Ls.length c2];have HPt:=hid (fun V (hV:Fr [] (w.alloc (.cells #[k,n,.slice a1 L.length c1,.int .u16 ty,.int .u64 en,.slice a2 Ls.length c2] 36)) V)=>(show Calls prog 17 #[(0:Int),q,some p,.slice a1 L.length c1,.int .u16 ty,.int .u64 en,.slice a2 Ls.length c2] V (PtE wa q base p pn pr D V)from z4h 0 (h0.fr0 hV) a1 c1 L (hA.fr (f0.trans hV)) hAq hb hl a2 c2 Ls (hRA.fr0 (f0.trans hV)) hty hen));clear h h0 hA hAq hb hl hty hen hRA;generalize L.length=n1 at*;generalize Ls.length=n2 at*;generalize hW:w.alloc (.cells #[k,n,.slice a1 n1 c1,.int .u16 ty,.int .u64 en,.slice a2 n2 c2] 36)=W0 at*;have hd0:=B0.cell;obtain⟨k3,k4,k5,k6,k7,k8⟩:=hk;have b3:(k==3)=false:=by simp;omega
 have b4:(k==4)=false:=by simp;omega
 have b5:(k==5)=false:=by simp;omega
 have b6:(k==6)=false:=by simp;omega
 have b7:(k==7)=false:=by simp;omega
 have b8:(k==8)=false:=by simp;omega
 clear k3 k4 k5 k6 k7 k8;go_in;go_wp2_with fail;go_call HP.out as e w1 ⟨hpk,hw⟩;have hw:=hw.symm;subst hw;clear HP hW
 obtain⟨yv,rfl⟩:∃yv,e= .returned yv:=by
  rcases hpk with⟨-,rfl⟩|⟨_,_,-,rfl⟩<;>exact⟨_,rfl⟩
 obtain⟨yx,rfl⟩:∃yx:Int,yv= .int .i64 yx:=by
  rcases hpk with⟨-,e⟩|⟨_,_,-,e⟩<;>(injection e with e;exact⟨_,e⟩)
 have hp0:=HPt.out W0 (Fr.refl [] W0);clear hpk HPt;go_wp2_with fail;go_call hp0 as e w2 ⟨⟨z,rfl⟩,D2,g2,l2,par2,own2,nm2,fr2,Es2,nk,h2⟩;have H2:=hid (And.intro ((Nk.of0 (D:=D) f0).trans nk) h2);clear nk h2 hp0;go_wp2;go_ret;exact⟨rfl,D2,_,_,_,_,_,_,_,H2.out⟩
end
section
variable{wa w W W':World}{q:MH}{base p pn pr fr x ex ty:Nat}{D l R:List Nat}{g:EW}{par own:Nat→Nat}{nm:Nat→List (List Nat)}{Es:List ED}{L Ls:List (List Nat)}{ad:Option Addr}{cp:Nat}
theorem z4u(h:CP wa q g l par own nm fr W)(hx:x∈g.R)(hp:g.p x=zqj Ls):Byt W (some ⟨q.ga,x+32,none⟩) (zqj Ls):=by
 obtain⟨u,X,hI,f,-⟩:=h.en hx;obtain⟨n,n1,n2,n3,n4,n5⟩:=f.fit;have hon:=f.on;rw[hp]at hon n1;have hp0:zc7 (x+32) (zqj Ls).length=x+32:=by unfold zc7;rw[if_neg (by rw[zqp];omega)]
 have hl':u.ms.l.length=zdw u.a u.s:=TM.bytes_len u;have:=hI.m.m.ar.part (x+32) (zqj Ls).length (by rw[hl'];omega);rw[zn2 u _ _ (by omega),zwa hon,hp0]at this;exact this
theorem z4v(h:CP wa q g l par own nm fr W)(y:Nat):W.frozen? ⟨q.ga,y,none⟩=false:=by
 obtain⟨refs,B,⟨S,L,u,E,B0,gi,-⟩,-⟩:=h;obtain⟨cur,hb,-⟩:=gi.wb.h.m.m.ar.row;exact hb.frozen y
theorem z4w(h:PE wa q base p pn pr D g l par own nm fr Es w)(n:Int)(a1:Option Addr)(n1 c1 ty en:Nat)(hty:ty<65536)(a2:Option Addr)(n2 c2:Nat):Calls prog 9 #[q,some p,.agg #[(7:Int),n,.slice a1 n1 c1,.int .u16 ty,.int .u64 en,.slice a2 n2 c2]] w (AcP wa q base p pn pr D w):=by
 have f0:Fr [] w (w.alloc (.cells #[(7:Int),n,.slice a1 n1 c1,.int .u16 ty,.int .u64 en,.slice a2 n2 c2] 36)):=(Fr.refl [] w).alloc _;have h0:=h.fr0 f0;have HP:=hid (z4l h0.k.d (by have:=h0.few;omega) n);have B0:=Blk.new w 36 #[.int .i64 7,.int .i64 n,.slice a1 n1 c1,.int .u16 ty,.int .u64 en,.slice a2 n2 c2];have HQ:=hid (show w.heap.size∉q.blocks from fun hm=>by have:=h.k.c.bok.q _ hm;omega);clear h;generalize hW:w.alloc (.cells #[(7:Int),n,.slice a1 n1 c1,.int .u16 ty,.int .u64 en,.slice a2 n2 c2] 36)=W0 at*;have hd0:=B0.cell;go_in;go_wp2_with fail;go_call HP.out as e w1 ⟨hpk,hw⟩;have hw:=hw.symm;subst hw;clear HP hW;rcases hpk with⟨he,rfl⟩|⟨i,d,hd,rfl⟩
 ·obtain⟨u,hI,hG,HM⟩:=z4m h0.k.c
  have HR:=hid (z33 hI hG)
  have HA:=hid (show Calls prog 28 #[some p,(0:Int)] W0 fun e w'=>AtE Es 0 e∧w'=W0 from by
   obtain⟨vE,vN,ad,cap,h⟩:=h0.k.d;exact xeat h.e (by have:=h0.few;omega) 0)
  have HM:=hid HM;have HE:=hid he;clear hI hG he;go_wp2_with fail;go_call HA.out as e w2 ⟨⟨i,d,rfl,hd,hy⟩|⟨rfl,hno⟩,hw2⟩
  ·rw[HE.out]at hd;cases hd
  have hw2:=hw2.symm;subst hw2;clear hno HA;go_wp2_with fail;go_call HR.out as e w2 ⟨rfl,k2,f2⟩;have P2:=h0.mem f2 (HM.out _ k2 f2);have N2:=(Nk.of0 (D:=D) f0).trans (Nk.ofQ f2);clear k2 f2;go_wp2;go_ret;exact⟨rfl,D,_,_,_,_,_,_,_,N2,P2⟩
 ·have HA:=hid (show Calls prog 28 #[some p,d.y] W0 fun e w'=>AtE Es d.y e∧w'=W0 from by
   obtain⟨vE,vN,ad,cap,h⟩:=h0.k.d;exact xeat h.e (by have:=h0.few;omega) d.y)
  have HDm:=hid (List.mem_of_getElem? hd);clear hd;go_wp2_with fail;go_call HA.out as e w2 ⟨⟨j,d2,rfl,hd,hy⟩|⟨rfl,hno⟩,hw2⟩
  ·have hw2:=hw2.symm
   subst hw2;rw[←hy];obtain⟨-,-,Ls,hG,hp,hdn,hrd⟩:=h0.d d2 (List.mem_of_getElem? hd);have hxR:d2.y∈g.R:=h0.r.in_.2 ⟨d2,List.mem_of_getElem? hd,rfl⟩;have HV:=hid (z3i h0.k.c hxR hp hG);have b1:=dF ((j:Int)<0);have HX:=hid (And.intro hd (And.intro hG (And.intro hp (And.intro hdn hxR))));clear hd hy HA hG hp hdn hxR;go_wp2_with fail;go_call HV.out as e w3 ⟨v,rfl,r3,c3,f3⟩;have P3:=h0.mem f3 c3;have N3:=(Nk.of0 (D:=D) f0).trans (Nk.ofQ f3);obtain⟨hd,hG,hp,hdn,hxR⟩:=HX.out;have hn16:=hG.n;have hbv:=z4u c3 hxR hp;obtain⟨adv,capv,rfl,A3⟩:=r3.recA hbv hn16.1 (by omega);have hrd3:=hrd.nk (Nk.ofQ (D:=D) f3);have HS:=hid (zrw w3 adv d2.ad capv d2.cp Ls A3 hrd3.a);obtain⟨ge,cap,hge,c0,cc,zc,hj,hcap,-⟩:=P3.k.d.cellE (j:=4) (d':=d2) (u:= .slice d2.ad d2.n d2.cp) hd (by decide) rfl;have c4:w3.cell? ⟨ge,j*6+4,none⟩=some (.slice d2.ad d2.n d2.cp):=cc 4 (by decide);rw[hdn]at c4;have HL:=hid (And.intro hge (And.intro zc (And.intro hj hcap)));have i0:(0:Int)≤j:=by omega
   have i1:(j:Int)<Es.length:=by omega
   generalize hnE:Es.length=nE at c0 i1;obtain⟨nn,hnn⟩:∃nn,Ls.length=nn:=⟨_,rfl⟩;have HNN:=hid (And.intro hnE hnn);rw[hnn]at HS c4 hn16⊢;clear c3 hd hG hp hdn hxR hbv A3 hge zc hj hcap cc HV hnE hnn;go_wp2_with fail;go_call HS.out as e w4 ⟨rfl,f4⟩;have P4:=P3.fr0 f4;have N4:=N3.trans (Nk.of0 f4);obtain⟨hd,hG,hp,hdn,hxR⟩:=HX.out;have hnn:=HNN.2;have hkl:nn-1<Ls.length:=by omega
   have hgd:Ls[nn-1]?=some Ls[nn-1] :=List.getElem?_eq_getElem hkl
   have hsl:(Ls[nn-1]'hkl).length≤480:=by
    have h1:=hG.s;have h2:=(zqu hgd).2;have h3:=hG.size;omega
   generalize Ls[nn-1]'hkl=s at*;obtain⟨gv,cv,o,e1,hgv1,hgv2,hcv,hcl,ho⟩:=r3.at_ hgd;injection e1 with e1 e2 e3;subst e1 e3;generalize hm:s.length=m at hcl ho hsl;have hc4:=(f4.cell (p:=⟨gv,nn-1,none⟩) hgv2 (by simp)).trans hcl;generalize hk:nn-1=k at hgd hc4 hkl;have k0:(0:Int)≤k:=by omega
   have k1:(k:Int)<nn:=by omega
   have wk:IntKind.i64.wrap ((nn:Int)-1)=(k:Int):=by rw[i6 _];omega
   have e0:=(f4.cell (p:=⟨p,0,none⟩) (P3.k.d.lt p (by obtain⟨vE,vN,ad,cap,hh⟩:=P3.k.d;exact(hh.mem p).2 (.inl rfl))) (by simp)).trans c0;have e4:=(f4.cell (p:=⟨ge,j*6+4,none⟩) (P3.k.d.lt ge HL.1) (by simp)).trans c4;have bd:w4.cell? ⟨w.heap.size,3,none⟩=some (.int .u16 ty):=((B0.fr f3 HQ.out).fr f4 (by simp)).cell 3;clear hcl c0 c4 hcv hgv1 HS r3;by_cases h0:m=0
   ·have bm:=dF ((0:Int)<m)
    have bm':=dF (0<m);clear hd hG hp hdn hxR hgd hsl ho hm hkl hk hnn;go_wp2;go_ret;exact⟨rfl,D,_,_,_,_,_,_,_,N4,P4⟩
   have bm:=dT ((0:Int)<m);have bm':=dT (0<m);have hm0:0<m:=by omega
   have hm0':(0:Int)<m:=by omega
   rw[hk]at ho;have ho1:=ho (by omega);obtain⟨tb,htb⟩:∃tb,ty %256=tb:=⟨_,rfl⟩;have wt:IntKind.u8.wrap (ty:Int)=(tb:Int):=by rw[IntKind.wrap_u8];omega
   have htb2:tb<256:=by omega
   have hpl:=zqp Ls;have hft:=(zqu hgd).2;have hbs:=(z4u P4.k.c hxR hp).part (2+2*Ls.length+(Ls.take k).flatten.length) s.length o (by omega) (fun _=>by omega);rw[zrl hgd]at hbs;obtain⟨gx,ox,ex,hx1,-⟩:=hbs.at_ 0 (by omega);injection ex with ex;injection ex with ex1 ex2;subst ex1 ex2;have hx1':w4.cell? ⟨q.ga,o,none⟩=some (.int .u8 ((s[0]?.getD 0:Nat):Int)):=hx1;have zx:=z4v P4.k.c o;obtain⟨c5,f5⟩:=CP.poke (W':=(w4.setCell ⟨q.ga,o,none⟩ (.int .u8 (tb:Int))).drew) P4.k.c hxR hp hgd (j:=0) (by omega) htb2 (by rw[ho1,Nat.add_zero]);have HG:=hid (And.intro hd (And.intro hgd (And.intro (hG.set hgd (by simp):GoodR (Ls.set k (s.set 0 tb))) (And.intro hdn (And.intro hm (And.intro hsl (And.intro hkl (And.intro hnn htb2))))))));have HRd5:=(hrd.nk (Nk.ofQ (D:=D) f3)).nk ((Nk.of0 (D:=D) f4).trans (Nk.ofQ f5));have HDE5:=P4.k.d.frS f5 P4.k.qD;have e05:=(f5.cell (p:=⟨p,0,none⟩) (P4.k.d.lt p (by obtain⟨vE,vN,ad,cap,hh⟩:=P4.k.d;exact(hh.mem p).2 (.inl rfl))) (fun hm=>P4.k.qD p hm (by obtain⟨vE,vN,ad,cap,hh⟩:=P4.k.d;exact(hh.mem p).2 (.inl rfl)))).trans e0;have e45:=(f5.cell (p:=⟨ge,j*6+4,none⟩) (P4.k.d.lt ge HL.1) (fun hm=>P4.k.qD ge hm HL.1)).trans e4;have BX4:=(B0.fr f3 HQ.out).fr f4 (by simp);have bd5:(w4.setCell ⟨q.ga,o,none⟩ (.int .u8 (tb:Int))).drew.cell? ⟨w.heap.size,3,none⟩=some (.int .u16 ty):=(BX4.fr f5 HQ.out).cell 3;have BX5:=BX4.fr f5 HQ.out;clear hG hp hxR hd hgd hft hpl hbs hx1 hdn hm hsl hkl hnn htb2 ho ho1 htb hk hty hn16;go_wp2_with fail;go_region;clear e0 e4 bd hx1' zx hc4;generalize(w4.setCell ⟨q.ga,o,none⟩ (.int .u8 (tb:Int))).drew=W5 at*;obtain⟨hd,hgd,hGd,hdn,hm,hsl,hkl,hnn,htb2⟩:=HG.out;have hn16:=hGd.n;rw[List.length_set]at hn16;obtain⟨g0,o0,gl,cl,w6,cs,had,hrun,hgl,hcl,hBl,hcs,f6⟩:=z4i W5 Ls d2.ad d2.cp HRd5.a (by omega) (by omega);rw[hnn]at hrun hcl;obtain⟨ga',oa',a,c,ea,hca,hba,hga,hPa,hPi⟩:=HRd5.a.at_ k hkl;rw[had]at ea;injection ea with ea;injection ea with ea1 ea2;subst ea1 ea2;rw[hgd,Option.getD_some]at hca hba;have hmc:=HRd5.c k hkl g0 o0 a s.length c had hca;obtain⟨ha,pa,rfl,-,hha⟩:=hba.at_ 0 (by omega);rw[hm]at hca hmc;have hck:w6.cell? ⟨gl,k,none⟩=some (.slice (some ⟨ha,pa,none⟩) m c):=(hBl.cell k).trans ((hcs k hkl).trans hca);obtain⟨gt,ct,w7,hrun2,hO7,f7⟩:=z4j w6 tb ha pa m c s (hba.fr f6 (by simp)) hm hm0 (by omega) htb2 hmc;have fz:Fr [] W5 (W5.alloc (.cells #[] 49)):=(Fr.refl [] W5).alloc _;have e05':=(fz.cell (p:=⟨p,0,none⟩) (HDE5.lt p (by obtain⟨vE,vN,ad,cap,hh⟩:=HDE5;exact(hh.mem p).2 (.inl rfl))) (by simp)).trans e05;have e45':=(fz.cell (p:=⟨ge,j*6+4,none⟩) (HDE5.lt ge HL.1) (by simp)).trans e45;have BX6:=BX5.fr f6 (by simp);have bd6:=BX6.cell 3;have hgl6:=hBl.lt;have e06:=(f6.cell (p:=⟨p,0,none⟩) (HDE5.lt p (by obtain⟨vE,vN,ad,cap,hh⟩:=HDE5;exact(hh.mem p).2 (.inl rfl))) (by simp)).trans e05;have e46:=(f6.cell (p:=⟨ge,j*6+4,none⟩) (HDE5.lt ge HL.1) (by simp)).trans e45;have fa:Fr [] w6 (w6.alloc (.cells #[.int .u8 (tb:Int)] 5)).drew:=((Fr.refl [] w6).alloc _).drew;have ca:=(fa.cell (p:=⟨gl,k,none⟩) hgl6 (by simp)).trans hck;have cb:=(f7.cell (p:=⟨gl,k,none⟩) hgl6 (by simp)).trans hck;have zb:=(hBl.fr f7 (by simp)).frozen k;have HE:=hid hrun2;have f8:Fr [gl] w7 (w7.setCell ⟨gl,k,none⟩ (.slice (some ⟨gt,0,none⟩) m ct)):=(Fr.refl [gl] w7).setCell (.inl (by simp)) _;have F8:=show Fr [] W5 (w7.setCell ⟨gl,k,none⟩ (.slice (some ⟨gt,0,none⟩) m ct))from(f6.trans f7).step f8 (fun z hz=>by simp at hz;rw[hz];exact .inr hgl);have hBl8:=(hBl.fr f7 (by simp)).set k (.slice (some ⟨gt,0,none⟩) m ct);have hq5:∀z∈q.blocks,z<W5.heap.size:=c5.bok.q;have hD5:∀z∈D,z<W5.heap.size:=HDE5.lt;have hO7':=hO7;obtain⟨_,⟨ez,_⟩|⟨gt',ct',cur7,ez,hgt7,hBt,hct7,_⟩⟩:=hO7'
   ·injection ez with ez;cases ez
   injection ez with ez1 ez2 ez3;injection ez1 with ez1;injection ez1 with ez1;subst ez1 ez3
   have hsby:∀z∈s.set 0 tb,z<256:=fun z hz=>by
    rcases List.mem_or_eq_of_mem_set hz with e|e
    ·exact hba.byte z e
    ·omega
   obtain⟨ay,cy,ey,hby7,-⟩:=hO7.byt hsby (by rw[List.length_set];omega);injection ey with ey eyl eyc;subst ey;clear eyl eyc
   have hgtl:gt≠gl:=fun e=>by
    have h1:=hBl.fr f7 (by simp);exact Blk.ne_ (t:=5) (t':=49) hBt h1 (by decide) e
   have f8s:=f8.size
   have hr8:=(RecD.set (k:=k) (x:=s.set 0 tb) (ct:=ct) (had▸HRd5) hq5 hD5 F8 hkl hgl hBl8 (fun i hi hne=>by
    rw[Array.getElem?_setIfInBounds_ne (fun e=>hne e.symm)];exact hcs i hi) (by
    have hkz:k<cs.size:=by
     have:=(hcs k hkl).trans hca;exact(Array.getElem?_eq_some_iff.1 this).1
    rw[List.length_set,hm,Array.getElem?_setIfInBounds_self_of_lt hkz]) ⟨Nat.le_trans f6.size hgt7,Nat.lt_of_lt_of_le (Blk.lt hBt) f8s⟩ (hby7.fr f8 (fun g' o' e=>by injection e with e;injection e with e;subst e;simp;exact hgtl)) (by rw[List.length_set,hm];rw[ez2]at*;omega))
   have HDE8:=HDE5.fr0 F8;obtain⟨ge9,cap9,hge9,c09,cc9,zc9,hj9,hcap9,hDE9⟩:=HDE8.cellE (j:=4) (d':={d2 with ad:=some ⟨gl,0,none⟩,n:=nn,cp:=cl}) (u:= .slice (some ⟨gl,0,none⟩) nn cl) hd (by decide) rfl;have c49:(w7.setCell ⟨gl,k,none⟩ (.slice (some ⟨gt,0,none⟩) m ct)).cell? ⟨ge9,j*6+4,none⟩=some (.slice d2.ad d2.n d2.cp):=cc9 4 (by decide);rw[HNN.1]at c09 hcap9;have f9:Fr D (w7.setCell ⟨gl,k,none⟩ (.slice (some ⟨gt,0,none⟩) m ct)) ((w7.setCell ⟨gl,k,none⟩ (.slice (some ⟨gt,0,none⟩) m ct)).setCell ⟨ge9,j*6+4,none⟩ (.slice (some ⟨gl,0,none⟩) nn cl)):=(Fr.refl _ _).setCell (.inl hge9) _;have n9:=show Nk q D w4 D ((w7.setCell ⟨gl,k,none⟩ (.slice (some ⟨gt,0,none⟩) m ct)).setCell ⟨ge9,j*6+4,none⟩ (.slice (some ⟨gl,0,none⟩) nn cl))from((Nk.ofQ f5).trans (Nk.of0 F8)).trans ⟨f9.mono (fun z hz=> .inl (List.mem_append_right _ hz)),fun z hz=> .inl hz⟩;have c9:=((c5.fr0 F8).frL P4.k.ok f9 P4.k.hD);have P9:=P4.swap n9 (d':={d2 with ad:=some ⟨gl,0,none⟩,n:=nn,cp:=cl}) hd rfl rfl rfl rfl rfl hGd c9 hDE9 (by rw[List.length_set,hnn]) (hr8.nk ⟨f9.mono (fun z hz=> .inl (List.mem_append_right _ hz)),fun z hz=> .inl hz⟩);have HJ:=hid (And.intro hj9 hcap9);generalize hc2:(if c-1=0 then(some ⟨ha,pa,none⟩:Option Addr)else some ⟨ha,pa+1,none⟩)=ad2 at*
   have hc3:(if c=1 then(some ⟨ha,pa,none⟩:Option Addr)else some ⟨ha,pa+1,none⟩)=ad2:=by
    rw[←hc2];by_cases e:c=1
    ·rw[if_pos e,if_pos (by omega)]
    ·rw[if_neg e,if_neg (by omega)]
   have m1:(1:Int)≤m:=by omega
   have m1':1≤m:=by omega
   have m2:(m:Int)≤c:=by omega
   clear hGd hgd hd hrun2 hO7 hby7 hsby hBt hr8 f8 f9 c9 hDE9 HDE8 hcs hca hba hga hPa hPi hha hq5 hD5 hBl hBl8 had hdn hm hsl hkl hnn hmc f7 F8 hgl hcl hgt7 hct7 hgtl f8s hge9 hj9 hcap9 htb2 hgl6 fz ez2;go_wp2_with (first|(at_builtin;refine zrb rfl (.tmp 189) (.tmp 197) 34 rfl rfl _ _ _ _ rfl rfl hrun ?_)|fail);apply z1h
   ·intro key
    go_region_law (first|(refine z1g rfl (.tmp 204) (.tmp 209) 49 rfl rfl _ _ _ _ (by simp[Act.eval,Act.put]) (by simp[Act.eval,Act.put,hc3]) HE.out ?_));all_goals exact key
   ·clear hc2 hc3 HE hrun ca cb zb hck e05 e45 e05' e45' e06 e46 bd5 bd6
    obtain⟨j9,k9⟩:=HJ.out;rw[HNN.1]at j9;clear HX hrd HL HNN P3 N3 f3 hrd3 P4 f4 c5 f5 HG HRd5 HDE5 BX4 BX5 BX6 f6 fa m1 m1' m2 cc9;generalize w7.setCell ⟨gl,k,none⟩ (.slice (some ⟨gt,0,none⟩) m ct)=W8 at*;go_wp2;go_ret;exact⟨rfl,D,_,_,_,_,_,_,_,N4.trans n9,P9⟩
  ·exact absurd rfl (hno d HDm.out)
end
section
variable{wa w:World}{q:MH}{base p pn pr fr ty:Nat}{D l:List Nat}{g:EW}{par own:Nat→Nat}{nm:Nat→List (List Nat)}{Es:List ED}{L Ls:List (List Nat)}
theorem z4x{P:Nat→Prop}(h:PE wa q base p pn pr D g l par own nm fr Es w)(k n:Int)(a1:Option Addr)(c1 ty en:Nat)(L:List (List Nat))(hA:StrA w a1 L)(hAq:0<L.length→∀gb o,a1=some ⟨gb,o,none⟩→gb∉q.blocks∧gb∉D)(hb:zzj L≤1131)(hl:L.length≤130)(hty:ty<65536)(hen:en<18446744073709551616)(a2:Option Addr)(c2:Nat)(Ls:List (List Nat))(hRA:RecA P w a2 Ls):Calls prog 9 #[q,some p,.agg #[k,n,.slice a1 L.length c1,.int .u16 ty,.int .u64 en,.slice a2 Ls.length c2]] w (AcP wa q base p pn pr D w):=by
 by_cases h3:k=3∨k=4
 ·exact z4n h k n h3 a1 _ c1 ty en a2 _ c2
 by_cases h5:k=5
 ·subst h5;exact z4o h n a1 _ c1 ty en hty a2 _ c2
 by_cases h6:k=6
 ·subst h6;exact z4r h n a1 _ c1 ty en hty a2 _ c2
 by_cases h7:k=7
 ·subst h7;exact z4w h n a1 _ c1 ty en hty a2 _ c2
 by_cases h8:k=8
 ·subst h8;exact z4s h n a1 _ c1 ty en a2 _ c2
 exact z4t h k n ⟨fun e=>h3 (.inl e),fun e=>h3 (.inr e),h5,h6,h7,h8⟩ a1 c1 ty en L hA hAq hb hl hty hen a2 c2 Ls hRA
end
section
variable{wa w W W' V:World}{q:MH}{base p pn pr fr x typ b ty:Nat}{D l R:List Nat}{g:EW}{par own:Nat→Nat}{nm:Nat→List (List Nat)}{Es:List ED}{Ls:List (List Nat)}{vE vN:Value}{ad aE aN:Option Addr}{cp cap:Nat}
theorem z4y:∀(l:List ED),(l.map (·.y)).Nodup→∀d∈l,∀d'∈l,d'.y=d.y→d'=d
 | [],_,d,hd,_,_,_=>by cases hd
 |b::l,h,d,hd,d',hd',e=>by
  rw[List.map_cons,List.nodup_cons]at h;rcases List.mem_cons.1 hd with h1|h1<;>rcases List.mem_cons.1 hd' with h2|h2
  ·rw[h1,h2]
  ·exact absurd (h1▸e▸List.mem_map_of_mem h2) h.1
  ·exact absurd (h2▸e.symm▸List.mem_map_of_mem h1) h.1
  ·exact z4y l h.2 d h1 d' h2 e
def PV(wa:World)(q:MH)(base p pn pr:Nat)(D:List Nat)(g:EW)(l:List Nat)(par own:Nat→Nat)(nm:Nat→List (List Nat))(fr:Nat)(Es:List ED)(vE vN:Value)(ad:Option Addr)(cap:Nat)(W:World):Prop:=PE wa q base p pn pr D g l par own nm fr Es W∧DV W p pn pr D Es g.R g.b l par own nm vE vN ad cap
theorem PV.mem(h:PV wa q base p pn pr D g l par own nm fr Es vE vN ad cap W)(hf:Fr q.blocks W W')(c:CP wa q g l par own nm fr W'):PV wa q base p pn pr D g l par own nm fr Es vE vN ad cap W':=⟨h.1.mem hf c,h.2.frS hf h.1.k.qD⟩
theorem PV.fr0(h:PV wa q base p pn pr D g l par own nm fr Es vE vN ad cap W)(hf:Fr [] W W'):PV wa q base p pn pr D g l par own nm fr Es vE vN ad cap W':=⟨h.1.fr0 hf,h.2.fr0 hf⟩
theorem PV.cells(h:PV wa q base p pn pr D g l par own nm fr Es vE vN ad cap W):W.cell? ⟨p,0,none⟩=some vE∧W.cell? ⟨p,1,none⟩=some (some pn:Value)∧W.cell? ⟨p,2,none⟩=some (some pr:Value)∧W.cell? ⟨pn,0,none⟩=some vN∧W.cell? ⟨pr,0,none⟩=some (.slice ad Es.length cap):=by
 have h1:=h.2.e.st.cell;have h2:=h.2.g.st.cell 0;have e:Es.length=g.R.length:=by rw[←h.1.r.y,List.length_map]
 simp at h2;exact⟨by simpa using h1 0,by simpa using h1 1,by simpa using h1 2,h.2.n.c0,by rw[h2,e]⟩
theorem PV.six(h:PV wa q base p pn pr D g l par own nm fr Es (.slice aE Es.length cp) vN ad cap w){i:Nat}{d:ED}(hd:Es[i]?=some d):∃ge,aE=some ⟨ge,0,none⟩∧∀W,PV wa q base p pn pr D g l par own nm fr Es (.slice aE Es.length cp) vN ad cap W→
  W.cell? ⟨ge,i*6,none⟩=some (.int .i64 d.y)∧W.cell? ⟨ge,i*6+1,none⟩=some (.int .i64 d.p)∧W.cell? ⟨ge,i*6+2,none⟩=some (.int .u16 d.ty)∧W.cell? ⟨ge,i*6+3,none⟩=some (.int .u64 d.en)∧W.cell? ⟨ge,i*6+4,none⟩=some (.slice d.ad d.n d.cp)∧W.cell? ⟨ge,i*6+5,none⟩=some (.bool d.us):=by
 have hlt:=(List.getElem?_eq_some_iff.1 hd).1;obtain⟨_,_,e,hrw⟩:=h.2.e.row;injection e with e1 e2 e3;subst e1 e3;obtain⟨ge,rfl,-,-⟩:=hrw (by omega);refine⟨ge,rfl,fun W hW=> ?_⟩;obtain⟨_,_,e,hrw⟩:=hW.2.e.row;injection e with e1 e2 e3;subst e1 e3;obtain⟨_,e,-,hr⟩:=hrw (by omega);injection e with e;injection e with e;subst e;exact hr.six hd
theorem PE.all(h:PE wa q base p pn pr D g l par own nm fr Es W){i:Nat}{d:ED}(hd:Es[i]?=some d): ∃Ls,d.n=Ls.length∧RecD q D W d.ad Ls∧(∀s∈Ls,s.length≤600)∧Ls.length≤16∧ ∀V,CP wa q g l par own nm fr V→
  (Calls prog 18 #[q,d.y] V fun e w'=> ∃ad cp,e= .returned (.tuple #[.agg #[.string (za0 (z3n (nm d.p))),.int .u16 d.ty,.slice ad d.n cp,.int .u64 d.en,d.us],(0:Int)])∧RecO w' V.heap.size (.slice ad d.n cp) Ls∧CP wa q g l par own nm fr w'∧Fr q.blocks V w')∧
  (Calls prog 19 #[q,d.p,.int .u16 d.ty] V (zR (.tuple #[d.y,true]) fun w'=>CP wa q g l par own nm fr w'∧Fr q.blocks V w'))∧
  (Calls prog 36 #[q,d.y] V (zR d.us fun w'=>CP wa q g l par own nm fr w'∧Fr q.blocks V w'))∧
  (Calls prog 37 #[q,d.y] V (zR (.int .u64 d.en) fun w'=>CP wa q g l par own nm fr w'∧Fr q.blocks V w'))∧
  (Calls prog 30 #[q,d.y] V (zR d.p fun w'=>CP wa q g l par own nm fr w'∧Fr q.blocks V w')):=by
 have hm:=List.mem_of_getElem? hd
 have hR:d.y∈g.R:=h.r.in_.2 ⟨d,hm,rfl⟩
 obtain⟨he,hu,Ls,hG,hp,hn,hrd⟩:=h.d d hm
 obtain⟨h1,h2⟩:=h.r.f d hm
 have hN:=h.h.ok _ hR
 have hf:=z4q h (k:=d.p) (ty:=d.ty) (.inl ⟨i,d,rfl,hd,rfl,rfl⟩)
 injection hf with hf
 rw[←h1]at hN
 refine⟨Ls,hn,hrd,fun s hs=> ?_,hG.n.2,fun V hV=>⟨?_,?_,?_,?_,?_⟩⟩
 ·have k1:=hG.s
  obtain⟨i,hi,rfl⟩:=List.mem_iff_getElem.1 hs
  have k2:=(zqu (List.getElem?_eq_getElem hi)).2
  have k3:=hG.size
  omega
 ·have:=z0y hV hR hp hG (z3n (nm d.p)) (fun V hV=>by rw[←h1];exact z3r hV hN (h.c _ hN))
  rw[h2,he,hu,hn]
  exact this
 ·rw[hf,h2]
  refine z2r hV h.h hN ?_
  obtain⟨u,X,-,f,-,hB,-⟩:=h.k.c.en hR
  rw[←f.cl]
  exact hB.ok.typ
 ·rw[hu];exact z0r hV hR
 ·rw[he];exact z0q hV hR
 ·rw[h1];exact z0s hV hR
theorem z4z(h:PE wa q base p pn pr D g l par own nm fr Es w):Calls prog 10 #[(0:Int),q,some p] w (zR true fun w'=>PE wa q base p pn pr D g l par own nm fr Es w'∧Fr q.blocks w w'):=by
 obtain⟨vE,vN,ad,cap,hDV⟩:=h.k.d;obtain⟨aE,cE,rfl,-⟩:=hDV.e.row;obtain⟨aN,cN,rfl⟩:=hDV.n.len;have hR:Es.length=g.R.length:=by rw[←h.r.y,List.length_map]
 have hfew:=h.few;have hnd:=h.k.c.rfew.2;have HX:=hid (And.intro h.r.y hnd);have k0:PV wa q base p pn pr D g l par own nm fr Es (.slice aE Es.length cE) (.slice aN l.length cN) ad cap w:=⟨h,hDV⟩;have HAll:=hid (fun i d (hd:Es[i]?=some d)=>h.all hd);have hSix:=fun i d (hd:Es[i]?=some d)=>k0.six hd;have hNc:=fun i x (hx:l[i]?=some x)=>k0.2.n.cells hx;obtain⟨nE,hnE⟩:∃nE,Es.length=nE:=⟨_,rfl⟩;obtain⟨nN,hnN⟩:∃nN,l.length=nN:=⟨_,rfl⟩;have HLn:=hid (And.intro hnE (And.intro hnN (hR.symm.trans hnE)));rw[hnE]at hfew k0 hSix;rw[hnN]at k0 hNc hSix;obtain⟨K,hK⟩:∃K:World→Prop,K=PV wa q base p pn pr D g l par own nm fr Es (.slice aE nE cE) (.slice aN nN cN) ad cap:=⟨_,rfl⟩;have hV:∀V,K V→PV wa q base p pn pr D g l par own nm fr Es (.slice aE nE cE) (.slice aN nN cN) ad cap V:=fun V k=>by rw[hK]at k;exact k
 have HM:=hid (show∀V V',K V→Fr q.blocks V V'→CP wa q g l par own nm fr V'→K V' from fun V V' k f c=>by rw[hK];exact(hV V k).mem f c);have H0:=hid (show∀V V',K V→Fr [] V V'→K V' from fun V V' k f=>by rw[hK];exact(hV V k).fr0 f);have HP:=show∀V,K V→PE wa q base p pn pr D g l par own nm fr Es V from fun V k=>(hV V k).1;have HK:=hid (show K w from by rw[hK];exact k0)
 have HXi:=hid (fun V (k:K V) d (hm:d∈Es)=>z3y (hV V k).1.k.d (hV V k).1.k.c.dn (by rw[hnE];omega) ⟨d,hm,rfl⟩ (fun d hd=>by
  have:=(hV V k).1.h.ok d.y ((hV V k).1.r.in_.2 ⟨d,hd,rfl⟩);rw[←((hV V k).1.r.f d hd).1]at this;exact⟨this,(hV V k).1.c _ this⟩))
 have HSix:=hid (fun i d (hd:Es[i]?=some d)=>(hSix i d hd).imp fun ge h=>And.intro h.1 (fun V (k:K V)=>h.2 V (hV V k)));have HNc:=hid (fun i x (hx:l[i]?=some x)=>(hNc i x hx).imp fun gn h=>h.imp fun c h=>And.intro h.1 (fun V (k:K V)=>(h.2.2 V (hV V k).2.n).2));have HC0:=hid (fun V (k:K V)=>(by have:=(hV V k).cells;rw[hnE]at this;exact this:V.cell? ⟨p,0,none⟩=some (.slice aE nE cE)∧V.cell? ⟨p,1,none⟩=some (some pn:Value)∧V.cell? ⟨p,2,none⟩=some (some pr:Value)∧V.cell? ⟨pn,0,none⟩=some (.slice aN nN cN)∧V.cell? ⟨pr,0,none⟩=some (.slice ad nE cap)));have HRf:=hid (fun V (k:K V) x (hx:x∈l)=>zx5 (hV V k).1.k.c hx);have hCt:=fun V (k:K V)=>zx3 (hV V k).1.k.c;rw[hnN]at hCt;have HCt:=hid hCt;have HRa:=hid (fun V (k:K V)=>z0t (hV V k).1.k.c);have HRr:=fun V (k:K V)=>(hV V k).2.g.row;have hfN:=h.k.c.few;rw[hnN]at hfN;clear h hDV hR hnd hnE hnN k0 hSix hNc hV hK hCt;go_in;go_wp2;go_loopg [7] (nE+1) (fun gk v7 W=>∃i:Nat,v7= .int .i64 i∧(i+gk=nE+1∧i≤nE)∧Hid (K W)∧Hid (Fr q.blocks w W));case atStart=>exact⟨0,rfl,by omega,HK,hid (Fr.refl _ _)⟩
 case round=>
  clear HK;obtain⟨i,rfl,hi,HK,F3⟩:=hrel;obtain⟨c0,c1,c2,c3,c4⟩:=HC0.out _ HK.out;by_cases hlt:i<nE
  ·have b6':=dT (i<nE)
   obtain⟨d,hd⟩:∃d,Es[i]?=some d:=⟨_,List.getElem?_eq_getElem (by rw[HLn.1];exact hlt)⟩;obtain⟨gEE,rfl,hsix⟩:=HSix.out i d hd;obtain⟨y0,y1,y2,y3,y4,y5⟩:=hsix _ HK.out;obtain⟨Ls,hdn,hrd,hs6,hl16,hall⟩:=HAll.out i d hd;have hdm:=List.mem_of_getElem? hd
   have hXd:=fun V (k:K V)=>(HXi.out V k d hdm).mono fun e w' (h:ItD Es nm d.y e∧Fr [] V w')=>(show e= .returned (.tuple #[.agg #[.string (za0 (z3n (nm d.p))),.int .u16 d.ty,.slice d.ad d.n d.cp,.int .u64 d.en,d.us],(0:Int)])∧Fr [] V w' from by
    obtain⟨⟨j,d',h1,h2,h3⟩,h4⟩:=h;rw[z4y Es (by rw[HX.1];exact HX.2) d hdm d' (List.mem_of_getElem? h1) h2]at h3;exact⟨h3,h4⟩)
   obtain⟨dy,dp,dty,den,dad,dm,dcp,dus⟩:=d;simp only at y0 y1 y2 y3 y4 y5 hdn hrd hall hXd;generalize za0 (z3n (nm dp))=S at*;have HXd:=hid hXd;have HIt:=hid (fun V (k:K V)=>(hall V (HP V k).k.c).1);have HFi:=hid (fun V (k:K V)=>(hall V (HP V k).k.c).2.1);have HUs:=hid (fun V (k:K V)=>(hall V (HP V k).k.c).2.2.1);have HEn:=hid (fun V (k:K V)=>(hall V (HP V k).k.c).2.2.2.1);have HHo:=hid (fun V (k:K V)=>(hall V (HP V k).k.c).2.2.2.2);have HLs:=hid (And.intro hdn (And.intro hs6 hl16));have HQ:=hid (show∀k∈q.blocks,k<wr.heap.size from(HP _ HK.out).k.c.bok.q);have i0:(0:Int)≤i:=by omega
   have i1:(i:Int)<nE:=by omega
   have wi:=i6 ((i:Int)+1);have f1:Fr [] wr (wr.alloc (.cells #[dy,dp,.int .u16 dty,.int .u64 den,.slice dad dm dcp,dus] 82)):=(Fr.refl [] wr).alloc _;have B1:=Blk.new wr 82 #[.int .i64 dy,.int .i64 dp,.int .u16 dty,.int .u64 den,.slice dad dm dcp,.bool dus];have K1:=hid (H0.out _ _ HK.out f1);have F1:=F3.trans f1.nil;have S1:=hid f1.size;have hit:=HIt.out _ K1.out;have dd1:=B1.cell;clear hall hXd hdm hd hsix hdn hs6 hl16 f1 HK F3 HIt;go_wp2_with fail;go_call hit as e w4 ⟨a4,cp4,rfl,r4,k4,f4⟩;have hq4:∀k∈q.blocks,k<w4.heap.size:=fun k hk=>Nat.lt_of_lt_of_le (HQ.out k hk) (Nat.le_trans S1.out f4.size);have K4:=HM.out _ _ K1.out f4 k4;have f5:Fr [] w4 (w4.alloc (.cells #[.string S,.int .u16 dty,.slice a4 dm cp4,.int .u64 den,dus] 55)):=(Fr.refl [] w4).alloc _;have K5:=hid (H0.out _ _ K4 f5);have B4:=B1.fr f4 (fun hm=>Nat.lt_irrefl _ (HQ.out _ hm));have B5:=B4.fr f5 (by simp);have A5:=Blk.new w4 55 #[.string S,.int .u16 dty,.slice a4 dm cp4,.int .u64 den,.bool dus];have R4:=hid (And.intro r4 (fun k hk=>Nat.lt_of_lt_of_le (HQ.out k hk) S1.out));have F5:=(F1.trans f4).trans f5.nil;have HQ4:=hid (show w4.heap.size∉q.blocks from fun hm=>Nat.lt_irrefl _ (hq4 _ hm));have hxd:=HXd.out _ K5.out;have dd1:=B5.cell;clear r4 k4 f4 hq4 K4 B4 hit K1 B1 F1 HXd;go_wp2_with fail;go_call hxd as e w6 ⟨rfl,f6⟩;have f7:Fr [] w6 (w6.alloc (.cells #[.string S,.int .u16 dty,.slice dad dm dcp,.int .u64 den,dus] 55)):=(Fr.refl [] w6).alloc _;have f67:=f6.trans f7;have K7:=hid (H0.out _ _ K5.out f67);have B7:=B5.fr f67 (by simp);have A7:=A5.fr f67 (by simp);have C7:=Blk.new w6 55 #[.string S,.int .u16 dty,.slice dad dm dcp,.int .u64 den,.bool dus]
   have HQ6:=hid (show w6.heap.size∉q.blocks from fun hm=>by
    have h1:=HQ.out _ hm;have h2:=B5.lt;have h3:=f6.size;omega)
   have Z7:=f5.trans f67;have F7:=F5.trans f67.nil;have hfi:=HFi.out _ K7.out;have dd1:=B7.cell;clear f6 f7 f67 hxd K5 B5 A5 f5 F5 HFi;go_wp2_with fail;go_call hfi as e w8 ⟨rfl,k8,f8⟩;have K8:=hid (HM.out _ _ K7.out f8 k8);have F8:=F7.trans f8;have f48:Fr q.blocks w4 w8:=Z7.nil.trans f8;obtain⟨a4',c4',e4,A4⟩:=(R4.1.fr f48 R4.2).recA hrd.a.byte (fun s hs=>by have:=HLs.2.1 s hs;omega) (by have:=HLs.2.2;omega);injection e4 with e4a e4b e4c;subst e4a e4c;clear e4b;have hsm:=fun V (hV:Fr [] w8 V)=>z3s V S dty den dus a4 dad cp4 dcp Ls (A4.fr0 hV) ((hrd.nk (D:=D) (Nk.ofQ F8)).a.fr0 hV);rw[←HLs.1]at hsm;have HSm:=hid hsm;have B8:=B7.fr f8 (fun hm=>Nat.lt_irrefl _ (HQ.out _ hm));have A8:=A7.fr f8 HQ4.out;have C8:=C7.fr f8 HQ6.out
   have HBk:=hid (show∀V,Fr q.blocks w8 V→V.cell? ⟨wr.heap.size,0,none⟩=some (.int .i64 dy)∧V.cell? ⟨wr.heap.size,1,none⟩=some (.int .i64 dp)∧V.cell? ⟨wr.heap.size,3,none⟩=some (.int .u64 den)∧V.cell? ⟨wr.heap.size,5,none⟩=some (.bool dus)∧(∀i,V.cell? ⟨w4.heap.size,i,none⟩= #[.string S,.int .u16 dty,.slice a4 dm cp4,.int .u64 den,.bool dus][i]?)∧(∀i,V.cell? ⟨w6.heap.size,i,none⟩= #[.string S,.int .u16 dty,.slice dad dm dcp,.int .u64 den,.bool dus][i]?)from fun V hV=>by
    have h1:=(B8.fr hV (fun hm=>Nat.lt_irrefl _ (HQ.out _ hm))).cell;exact⟨h1 0,h1 1,h1 3,h1 5,(A8.fr hV HQ4.out).cell,(C8.fr hV HQ6.out).cell⟩)
   clear k8 f8 f48 A4 hsm B8 A8 C8 hfi K7 B7 A7 C7 Z7 F7 R4 hrd HLs dd1 c0 c1 c2 c3 c4 y0 y1 y2 y3 y4 y5;generalize hbY:wr.heap.size=bY at*;generalize hb9:w4.heap.size=b9 at*;generalize hb11:w6.heap.size=b11 at*;go_wp2_with fail;have Z9:=(Fr.refl q.blocks w8).drew;have hY:=HBk.out _ Z9;refine wp_region_held_drew (S:=fun V=>V.cell? ⟨bY,0,none⟩=some (.int .i64 dy)∧V.cell? ⟨bY,1,none⟩=some (.int .i64 dp)∧V.cell? ⟨bY,3,none⟩=some (.int .u64 den)∧V.cell? ⟨bY,5,none⟩=some (.bool dus)∧(∀i,V.cell? ⟨b9,i,none⟩= #[.string S,.int .u16 dty,.slice a4 dm cp4,.int .u64 den,.bool dus][i]?)∧(∀i,V.cell? ⟨b11,i,none⟩= #[.string S,.int .u16 dty,.slice dad dm dcp,.int .u64 den,.bool dus][i]?)) (by kernel_rfl) (hY) (fun yH=> ?_);refine tkZ 0 ?_;refine tkZ 1 ?_;refine tkZ 2 ?_;refine tkZ 3 ?_;refine tkZ 4 ?_;refine tkC 5 fun K hK=> ?_;go_simp;go_call HSm.out _ (Fr.refl [] _).drew as e w10 ⟨rfl,f10⟩;have Z10:=Z9.trans f10.nil;have K10:=hid (H0.out _ _ K8.out ((Fr.refl [] _).drew.trans f10));have hY:=HBk.out _ Z10;clear f10;go_wp2_with fail;refine hK.out _ _ _ hY fun yH=> ?_;clear hK K;refine tkZ 6 ?_;refine tkZ 7 ?_;refine tkZ 8 ?_;refine tkZ 9 ?_;refine tkZ 10 ?_;refine tkZ 11 ?_;refine tkZ 12 ?_;refine tkZ 13 ?_;refine tkZ 14 ?_;refine tkZ 15 ?_;refine tkZ 16 ?_;refine tkZ 17 ?_;refine tkZ 18 ?_;refine tkZ 19 ?_;refine tkZ 20 ?_;refine tkZ 21 ?_;refine tkZ 23 ?_;refine tkZ 24 ?_;refine tkC 22 fun K hK=> ?_;go_simp;go_call HUs.out _ K10.out as e w11 ⟨rfl,k11,f11⟩;have Z11:=Z10.trans f11;have K11:=hid (HM.out _ _ K10.out f11 k11);have hY:=HBk.out _ Z11;clear f11 k11;go_wp2_with fail;refine hK.out _ _ _ hY fun yH=> ?_;clear hK K;refine tkZ 25 ?_;refine tkZ 26 ?_;refine tkZ 27 ?_;refine tkZ 28 ?_;refine tkZ 29 ?_;refine tkZ 30 ?_;refine tkZ 32 ?_;refine tkZ 33 ?_;refine tkC 31 fun K hK=> ?_;go_simp;go_call HEn.out _ K11.out as e w12 ⟨rfl,k12,f12⟩;have Z12:=Z11.trans f12;have K12:=hid (HM.out _ _ K11.out f12 k12);have hY:=HBk.out _ Z12;clear f12 k12;go_wp2_with fail;refine hK.out _ _ _ hY fun yH=> ?_;clear hK K;refine tkZ 34 ?_;refine tkZ 35 ?_;refine tkZ 36 ?_;refine tkZ 37 ?_;refine tkZ 38 ?_;refine tkZ 39 ?_;refine tkZ 41 ?_;refine tkZ 42 ?_;refine tkC 40 fun K hK=> ?_;go_simp;go_call HHo.out _ K12.out as e w13 ⟨rfl,k13,f13⟩;have Z13:=Z12.trans f13;have K13:=hid (HM.out _ _ K12.out f13 k13);have hY:=HBk.out _ Z13;clear f13 k13;go_wp2_with fail;refine hK.out _ _ _ hY fun yH=> ?_;clear hK K;refine tkZ 43 ?_;refine tkZ 44 ?_;refine wpAnyH_done (by kernel_rfl) ?_ _;try simp only[gP,List.getElem_cons_zero]
   clear hY;go_wp2;go_roundg (gk-1);case measure=>omega
   case rel=>exact⟨i+1,by go_num,by omega,K13,hid (F8.trans Z13)⟩
  ·obtain rfl:i=nE:=by omega
   clear HAll HXi HSix HX;go_wp2;clear c0 c1 c2 c3 c4;go_loopg [15] (nN+1) (fun gk v15 W=>∃j:Nat,v15= .int .i64 j∧(j+gk=nN+1∧j≤nN)∧Hid (K W)∧Hid (Fr q.blocks w W));case atStart=>exact⟨0,rfl,by omega,HK,F3⟩
   case round=>
    clear HK F3;obtain⟨j,rfl,hj,HK,F3⟩:=hrel;obtain⟨_,c1,_,c3,_⟩:=HC0.out _ HK.out;by_cases hlt:j<nN
    ·have b7':=dT (j<nN)
     obtain⟨x,hx⟩:∃x,l[j]?=some x:=⟨_,List.getElem?_eq_getElem (by rw[HLn.2.1];exact hlt)⟩;obtain⟨gN,cN',eN,hcl⟩:=HNc.out j x hx;injection eN with e1 e2 e3;subst e1 e3;clear e2;have HRx:=hid (fun V (k:K V)=>HRf.out V k x (List.mem_of_getElem? hx));generalize own x+bel par l x=R at*;have HCl:=hid hcl;have i0:(0:Int)≤j:=by omega
     have i1:(j:Int)<nN:=by omega
     have wi:=i6 ((j:Int)+1);clear hcl hx;go_wp2_with fail;have Z0:=(Fr.refl [] wr).drew;have hY:=And.intro (And.intro (HC0.out _ (H0.out _ _ HK.out Z0)).2.1 (HC0.out _ (H0.out _ _ HK.out Z0)).2.2.2.1) (HCl.out _ (H0.out _ _ HK.out Z0));refine wp_region_held_drew (S:=fun V=>(V.cell? ⟨p,1,none⟩=some (some pn:Value)∧V.cell? ⟨pn,0,none⟩=some (.slice (some ⟨gN,0,none⟩) nN cN))∧V.cell? ⟨gN,j*4,none⟩=some (.int .i64 x)∧V.cell? ⟨gN,j*4+3,none⟩=some (.int .i64 R)) (by kernel_rfl) (hY) (fun yH=> ?_);refine tkZ 0 ?_;refine tkZ 1 ?_;refine tkZ 2 ?_;refine tkZ 3 ?_;refine tkZ 4 ?_;refine tkZ 5 ?_;refine tkZ 6 ?_;refine tkZ 7 ?_;refine tkZ 8 ?_;refine tkZ 9 ?_;refine tkZ 10 ?_;refine tkZ 11 ?_;refine tkZ 13 ?_;refine tkZ 14 ?_;refine tkZ 15 ?_;refine tkZ 16 ?_;refine tkZ 17 ?_;refine tkZ 18 ?_;refine tkZ 19 ?_;refine tkZ 20 ?_;refine tkZ 21 ?_;refine tkZ 22 ?_;refine tkZ 23 ?_;refine tkC 12 fun K hK=> ?_;go_simp;go_call HRx.out _ (H0.out _ _ HK.out Z0) as e w8 ⟨rfl,k8,f8⟩;have K8:=hid (HM.out _ _ (H0.out _ _ HK.out Z0) f8 k8);have F8:=F3.trans (Z0.nil.trans f8);have hY:=And.intro (And.intro (HC0.out _ K8.out).2.1 (HC0.out _ K8.out).2.2.2.1) (HCl.out _ K8.out);clear k8 f8;go_wp2_with fail;refine hK.out _ _ _ hY fun yH=> ?_;clear hK K;refine tkZ 24 ?_;refine wpAnyH_done (by kernel_rfl) ?_ _;try simp only[gP,List.getElem_cons_zero]
     clear hY;go_wp2;go_roundg (gk-1);case measure=>omega
     case rel=>exact⟨j+1,by go_num,by omega,K8,F8⟩
    ·obtain rfl:j=nN:=by omega
     clear HNc HRf;go_wp2_with fail;have Z0:=(Fr.refl [] wr).drew;have K5:=hid (H0.out _ _ HK.out Z0);have hY:=And.intro (HC0.out _ K5.out).2.1 (HC0.out _ K5.out).2.2;refine wp_region_held_drew (S:=fun V=>V.cell? ⟨p,1,none⟩=some (some pn:Value)∧V.cell? ⟨p,2,none⟩=some (some pr:Value)∧V.cell? ⟨pn,0,none⟩=some (.slice aN j cN)∧V.cell? ⟨pr,0,none⟩=some (.slice ad i cap)) (by kernel_rfl) (hY) (fun yH=> ?_);refine tkZ 0 ?_;refine tkZ 2 ?_;refine tkZ 3 ?_;refine tkZ 4 ?_;refine tkZ 5 ?_;refine tkZ 6 ?_;refine tkZ 7 ?_;refine tkZ 8 ?_;refine tkZ 9 ?_;refine tkC 1 fun K hK=> ?_;go_simp;go_call HCt.out _ K5.out as e w6 ⟨rfl,h6,f6⟩;have K6:=hid (HM.out _ _ K5.out f6 h6);have F6:=F3.trans (Z0.nil.trans f6);have hY:=And.intro (HC0.out _ K6.out).2.1 (HC0.out _ K6.out).2.2;clear f6 h6;go_wp2_with fail;refine hK.out _ _ _ hY fun yH=> ?_;clear hK K;refine tkZ 10 ?_;refine tkZ 11 ?_;refine tkZ 12 ?_;refine tkZ 14 ?_;refine tkZ 15 ?_;refine tkZ 16 ?_;refine tkZ 17 ?_;refine tkZ 18 ?_;refine tkZ 19 ?_;refine tkZ 20 ?_;refine tkC 13 fun K hK=> ?_;go_simp;go_call HRa.out _ K6.out as e w7 ⟨v7,rfl,r7,h7,f7⟩;obtain⟨a7,cp7,e7,r7⟩:=zbj r7;have K7:=hid (HM.out _ _ K6.out f7 h7);have F7:=F6.trans f7;have hsm:=zbs r7 (HRr _ K7.out) (by rw[HLn.2.2];omega);rw[HLn.2.2]at e7 hsm;subst e7;have HSm:=hid hsm;have hY:=And.intro (HC0.out _ K7.out).2.1 (HC0.out _ K7.out).2.2;clear f7 h7 r7 hsm;go_wp2_with fail;refine hK.out _ _ _ hY fun yH=> ?_;clear hK K;refine tkC 21 fun K hK=> ?_;go_simp;go_call HSm.out as e w8 ⟨rfl,f8⟩;have K8:=hid (H0.out _ _ K7.out f8);have F8:=F7.trans f8.nil;have hY:=And.intro (HC0.out _ K8.out).2.1 (HC0.out _ K8.out).2.2;clear f8;go_wp2_with fail;refine hK.out _ _ _ hY fun yH=> ?_;clear hK K;refine tkZ 22 ?_;refine tkZ 23 ?_;refine wpAnyH_done (by kernel_rfl) ?_ _;try simp only[gP,List.getElem_cons_zero]
     clear hY;go_wp2;go_ret;exact⟨rfl,HP _ K8.out,F8⟩
end
section
open Go.Lib
theorem z40{W:World}{g:Nat}{cs:Array Value}{l:List Int}{nm:String}(hg:prog.globalNamed nm=some g)(hv:W.var? prog nm=some cs)(h:cs.toList=l.map fun z=>Value.int .i64 z)(i:Nat):W.cell? ⟨g,i,none⟩=(zdn l)[i]?:=by
 rw[World.var?_cell hg hv i];rw[←Array.getElem?_toList,h];simp[zdn]
theorem z41{W:World}{g o:Nat}{v:Value}(h:W.cell? ⟨g,o,none⟩=some v):g<W.heap.size:=by
 unfold World.cell? at h;cases hb:W.heap[g]? with
 |none=>rw[show(⟨g,o,none⟩:Addr).block=g from rfl,hb]at h;cases h
 |some o=>exact(Array.getElem?_eq_some_iff.1 hb).1
theorem gCls:prog.globalNamed "columbarium/class.sizes"=some 2:=by kernel_rfl
theorem gFld:prog.globalNamed "columbarium/memory.fields"=some 0:=by kernel_rfl
theorem tCls:(prog.globals[2]?).map (·.type)=some 165:=by kernel_rfl
theorem tFld:(prog.globals[0]?).map (·.type)=some 138:=by kernel_rfl
theorem mInt:prog.cellsOf 3=1:=by kernel_rfl
theorem z42{W:World}{p1 p2:List MemPlace}{c1 c2:Array Value}{f1 f2:Nat}
  (v1:W.var? prog "columbarium/class.sizes"=some c1) (d1:DataW.trod (fun _=>()) prog W 0 (fun _=>true) false f1 165 c1.toList=some (Rows.laid_columbarium_class_sizes,p1))
  (v2:W.var? prog "columbarium/memory.fields"=some c2) (d2:DataW.trod (fun _=>()) prog W 0 (fun _=>true) false f2 138 c2.toList=some (Rows.laid_columbarium_memory_fields,p2)):TabM W:=by
 have e1:=cells_of_tab (k:= .i64) (zs:= [0,32,48,64,96,128,192,256,384,512]) underlying165 underlying3 mInt (by kernel_rfl) d1
 have e2:=cells_of_tab (k:= .i64) (zs:= [8,12,16,20,24,28,32,36,40,44,48,52,56,60,64,68,72,80,84,88,92]) underlying138 underlying3 mInt (by kernel_rfl) d2
 have a1:=z40 gCls v1 e1
 have a2:=z40 gFld v2 e2
 have z1:=z41 (a1 0)
 exact⟨a1,a2,by omega⟩
end
section
open Go.Lib
theorem z43{m:Nat}(k:IntKind):∀(rows:List (List Int)) (cs:List Value),cs.length=rows.length*m→(∀i r,rows[i]?=some r→(cs.drop (i*m)).take m=r.map fun z=>Value.int k z)→cs=rows.flatten.map fun z=>Value.int k z
 | [],cs,h,_=>by simp at h;simp[h]
 |r::rows,cs,h,hp=>by
  have h0:=hp 0 r rfl;rw[Nat.zero_mul,List.drop_zero]at h0
  have h1:=z43 (m:=m) k rows (cs.drop m) (by rw[List.length_drop,h,List.length_cons,Nat.succ_mul,Nat.add_sub_cancel]) (fun i r' hr=>by
   have:=hp (i+1) r' hr;rw[List.drop_drop];rwa[Nat.succ_mul,Nat.add_comm]at this)
  rw[List.flatten_cons,List.map_append,←h0,←h1,List.take_append_drop]
theorem z44{H:Type}{enc:TypeId×Value→H}{P:Program}{w:World}{base:Nat}{sp:Nat→Bool}{held:Bool}{fuel:Nat}{t e f:TypeId}{n m:Nat}{k:IntKind}{cs:List Value}{rows:List (List Int)}{p:List MemPlace}
  (ht:P.underlying t=some (.array n e)) (he:P.underlying e=some (.array m f)) (hf:P.underlying f=some (.int k)) (hcf:P.cellsOf f=1) (hce:P.cellsOf e=m) (hct:P.cellsOf t=n*m)
  (h:DataW.trod enc P w base sp held fuel t cs=some (.agg (rows.map (tabData k)),p)):cs=rows.flatten.map fun z=>Value.int k z:=by
 obtain⟨xs,j,rfl,hx,hl,hn,hi⟩:=DataW.trod_array ht h
 simp only[Prod.mk.injEq,DataW.agg.injEq]at hx
 have hrl:rows.length=n:=by
  have:=congrArg List.length hx.1
  simp at this
  omega
 refine z43 (m:=m) k rows cs (by rw[hl,hct,hrl]) fun i r hr=> ?_
 have hin:i<n:=by rw[←hrl];exact(List.getElem?_eq_some_iff.1 hr).1
 have hti:=hi i hin
 rw[hce,List.getElem?_eq_getElem (by omega)]at hti
 have hxi:(xs[i]'(by omega)).1=tabData k r:=by
  have h1:(xs.map (·.1))[i]?=(rows.map (tabData k))[i]?:=by rw[hx.1]
  rw[List.getElem?_map,List.getElem?_map,List.getElem?_eq_getElem (by omega),hr]at h1
  simpa using h1
 exact cells_of_tab (p:=(xs[i]'(by omega)).2) he hf hcf hce (by rw[hti,←hxi])
theorem gNow:prog.globalNamed "columbarium/head.nowhere"=some 1:=by kernel_rfl
theorem gCom:prog.globalNamed "columbarium/head.common"=some 3:=by kernel_rfl
theorem gOwn:prog.globalNamed "columbarium/head.own"=some 4:=by kernel_rfl
theorem tNow:(prog.globals[1]?).map (·.type)=some 234:=by kernel_rfl
theorem tCom:(prog.globals[3]?).map (·.type)=some 297:=by kernel_rfl
theorem tOwn:(prog.globals[4]?).map (·.type)=some 298:=by kernel_rfl
theorem cInt:prog.cellsOf 3=1:=by kernel_rfl
theorem cRow:prog.cellsOf 234=2:=by kernel_rfl
theorem z45{W:World}{g:Nat}{cs:Array Value}{l:List Int}{nm:String}(hg:prog.globalNamed nm=some g)(hv:W.var? prog nm=some cs)(h:cs.toList=l.map fun z=>Value.int .i64 z)(i:Nat):W.cell? ⟨g,i,none⟩=(zj6 l)[i]?:=by
 rw[World.var?_cell hg hv i];rw[←Array.getElem?_toList,h];simp[zj6]
theorem z46{W:World}{g o:Nat}{v:Value}(h:W.cell? ⟨g,o,none⟩=some v):g<W.heap.size:=by
 unfold World.cell? at h;cases hb:W.heap[g]? with
 |none=>rw[show(⟨g,o,none⟩:Addr).block=g from rfl,hb]at h;cases h
 |some o=>exact(Array.getElem?_eq_some_iff.1 hb).1
theorem z47{W:World}{p1 p2 p3:List MemPlace}{c1 c2 c3:Array Value}{f1 f2 f3:Nat}
  (v1:W.var? prog "columbarium/head.nowhere"=some c1) (d1:DataW.trod (fun _=>()) prog W 0 (fun _=>true) false f1 234 c1.toList=some (Rows.laid_columbarium_head_nowhere,p1))
  (v2:W.var? prog "columbarium/head.common"=some c2) (d2:DataW.trod (fun _=>()) prog W 0 (fun _=>true) false f2 297 c2.toList=some (Rows.laid_columbarium_head_common,p2))
  (v3:W.var? prog "columbarium/head.own"=some c3) (d3:DataW.trod (fun _=>()) prog W 0 (fun _=>true) false f3 298 c3.toList=some (Rows.laid_columbarium_head_own,p3))
  :Tabs W:=by
 have e1:=cells_of_tab (k:= .i64) (zs:= [0,0]) underlying234 underlying3 cInt cRow d1
 have e2:=z44 (k:= .i64) (rows:= [[0,1],[1,1],[2,1],[3,1],[4,4]]) underlying297 underlying234 underlying3 cInt cRow (by kernel_rfl) d2
 have e3:=z44 (k:= .i64) (rows:= [[8,4],[12,4],[16,8],[24,2],[26,2],[28,4]]) underlying298 underlying234 underlying3 cInt cRow (by kernel_rfl) d3
 have a1:=z45 gNow v1 e1
 have a3:=z45 gCom v2 e2
 have a4:=z45 gOwn v3 e3
 have z4:=z46 (a4 0)
 exact⟨a1,a3,a4,by omega⟩
def laid5:List (String×DataW Unit):= [("columbarium/class.sizes",Rows.laid_columbarium_class_sizes),("columbarium/memory.fields",Rows.laid_columbarium_memory_fields),("columbarium/head.nowhere",Rows.laid_columbarium_head_nowhere),("columbarium/head.common",Rows.laid_columbarium_head_common),("columbarium/head.own",Rows.laid_columbarium_head_own)]
theorem tabs5_of_laid{W:World}(h:laidMetH prog laid5 W):TabM W∧Tabs W:=by
 rw[MakeChecks.laidMetH_plain _ _ _ (by kernel_rfl)]at h;obtain⟨ps,⟨k1,u1,b1,j1,r1,s1,kg1,kt1,kv1,kd1,⟨k2,u2,b2,j2,r2,s2,kg2,kt2,kv2,kd2,⟨g1,t1,c1,f1,p1,q1,hg1,ht1,hv1,hd1,⟨g2,t2,c2,f2,p2,q2,hg2,ht2,hv2,hd2,⟨g3,t3,c3,f3,p3,q3,hg3,ht3,hv3,hd3,_⟩,_⟩,_⟩,_⟩,_⟩,_⟩:=h;obtain rfl:=Option.some.inj (gCls.symm.trans kg1);obtain rfl:=Option.some.inj (gFld.symm.trans kg2);obtain rfl:=Option.some.inj (tCls.symm.trans kt1);obtain rfl:=Option.some.inj (tFld.symm.trans kt2);obtain rfl:=Option.some.inj (gNow.symm.trans hg1);obtain rfl:=Option.some.inj (gCom.symm.trans hg2);obtain rfl:=Option.some.inj (gOwn.symm.trans hg3);obtain rfl:=Option.some.inj (tNow.symm.trans ht1);obtain rfl:=Option.some.inj (tCom.symm.trans ht2);obtain rfl:=Option.some.inj (tOwn.symm.trans ht3);exact⟨z42 kv1 kd1 kv2 kd2,z47 hv1 hd1 hv2 hd2 hv3 hd3⟩
end
def PlK(w1:World)(q:MH)(base p pn pr:Nat)(W:World):Prop:= ∃D g l par own nm fr Es,PE w1 q base p pn pr D g l par own nm fr Es W
theorem z48(w:World)(hM:TabM w)(hT:Tabs w)(ad:Option Addr)(cap:Nat)(l:List A24)(hA:z22 w ad cap l):Calls prog 3 #[.slice ad l.length cap] w (zN true w):=by
 have HFew:=hid (show Calls prog 5 #[(0:Int),.slice ad l.length cap] w (z24 l w)from z26 w 0 ad cap l hA);have HHo:=hid (fun W (hf:Fr [] w W)=>z2t W (hM.fr hf (by simp)) (hT.fr hf (by simp)));have HFr:=hid (fun W (hf:Fr [] w W)=>(show Calls prog 7 #[(0:Int)] W _ from z2q 0 W (hM.fr hf (by simp)) (hT.fr hf (by simp))));obtain⟨nl,hnl⟩:∃nl,l.length=nl:=⟨_,rfl⟩;have HNL:=hid hnl;rw[hnl]at HFew⊢;clear hM hT hnl;go_in;go_wp2_with fail;go_call HFew.out as e w1 ⟨bf,rfl,f1,hfw⟩;cases bf with
 |false=>
  have hh:=HHo.out w1 f1;clear hfw HFew HHo HFr;go_wp2_with fail;go_call hh as e w2 ⟨rfl,f2⟩;have F2:=f1.trans f2;clear f2 hh;go_wp2;go_ret;exact⟨rfl,F2⟩
 |true=>
  have HFW:=hid (hfw rfl);have hfr:=HFr.out w1 f1;clear hfw HFew HFr;go_wp2_with fail;go_call hfr as e w2 ⟨q,t,rfl,h2,-,hq,f2⟩;have HNw:=hid (z2e w2 (fun _=>0) (fun _=>0) (fun _=> []));have HQ:=hid (fun k hk=>Nat.le_trans f1.size (hq k hk));have F2:=f1.trans f2;clear f2 hq hfr;go_wp2_with fail;go_call HNw.out as e w3 ⟨p,pn,pr,D0,rfl,d3,f3,hD3⟩;have N3:=show PlK w1 q w2.heap.size p pn pr w3 from⟨D0,ew0 t,[],fun _=>0,fun _=>0,fun _=> [],7,[],⟨⟨h2.fr0 f3,d3,h2.bok,hD3⟩,⟨rfl,fun d hd=>(nomatch hd)⟩,EHs.zero t _ _,fun y _=>rfl,fun y _=>rfl,fun d hd=>(nomatch hd)⟩⟩;have F3:=F2.trans f3;clear d3 f3 hD3 HNw;go_wp2;go_loopg [5] (nl+1) (fun gk v5 W=>∃i:Nat,v5= .int .i64 i∧(i+gk=nl+1∧i≤nl)∧Hid (PlK w1 q w2.heap.size p pn pr W)∧Hid (Fr [] w W));case atStart=>exact⟨0,rfl,by omega,N3,F3⟩
  case round=>
   clear N3 F3;obtain⟨i,rfl,hi,HK,F4⟩:=hrel;by_cases hlt:i<nl
   ·have b6':=dT (i<nl)
    have hL:i<l.length:=by rw[HNL.out];exact hlt
    obtain⟨B,off,rfl,hBl,hr⟩:=hA.row (by omega);have hrj:=hr i hL;have hok:=hA.each _ (List.getElem_mem hL);have hfew:=HFW.2 _ (List.getElem_mem hL);generalize l[i]'hL=d at*;obtain⟨dk,dn,da,dc,dl,dt,de,dra,drc,drl⟩:=d;have hY:=And.intro ((F4.cell (p:=⟨B,off+i*6+0,none⟩) hBl (by simp)).trans (hrj 0 (by decide))) (And.intro ((F4.cell (p:=⟨B,off+i*6+1,none⟩) hBl (by simp)).trans (hrj 1 (by decide))) (And.intro ((F4.cell (p:=⟨B,off+i*6+2,none⟩) hBl (by simp)).trans (hrj 2 (by decide))) (And.intro ((F4.cell (p:=⟨B,off+i*6+3,none⟩) hBl (by simp)).trans (hrj 3 (by decide))) (And.intro ((F4.cell (p:=⟨B,off+i*6+4,none⟩) hBl (by simp)).trans (hrj 4 (by decide))) ((F4.cell (p:=⟨B,off+i*6+5,none⟩) hBl (by simp)).trans (hrj 5 (by decide)))))));have hs:=hok.s;have hrw:=hok.r;have hty:=hok.ty;have hen:=hok.en;simp only[A24.cells,List.getElem?_cons_zero,List.getElem?_cons_succ,Nat.add_zero]at hY hs hrw hty hen hfew;obtain⟨D,g,ls,par,own,nm,fr,Es,k1⟩:=HK.out
    have hAq:0<dl.length→∀gb o,da=some ⟨gb,o,none⟩→gb∉q.blocks∧gb∉D:=fun h0 gb o e=>by
     obtain⟨g1,o1,e1,_,hg1⟩:=hs.at_ 0 h0;rw[e]at e1;injection e1 with e1;injection e1 with e1 _;subst e1;refine⟨fun hm=> ?_,fun hm=> ?_⟩
     ·have:=HQ.out _ hm;omega
     ·have:=k1.k.hD _ hm;have:=F2.size;omega
    have hac:=z4x k1 dk dn da dc dt de dl (hs.fr F4.out) hAq hfew.2.1 hfew.1 hty hen dra drc drl ((hrw.fr0 F4.out).recA hfew.2.2);obtain⟨m,hm⟩:∃m,dl.length=m:=⟨_,rfl⟩;obtain⟨mr,hmr⟩:∃mr,drl.length=mr:=⟨_,rfl⟩;rw[hm,hmr]at hac hY
    have HAc:=hid (hac.mono fun e W2 h=>(show e= .returned true∧PlK w1 q w2.heap.size p pn pr W2∧Fr [] w W2 from by
     obtain⟨rfl,D',g',l',par',own',nm',fr',Es',n2,k2⟩:=h
     exact⟨rfl,⟨D',g',l',par',own',nm',fr',Es',k2⟩,F4.step n2.f (fun k hk=> .inr (by
      rcases List.mem_append.1 hk with hk|hk
      ·exact HQ.out k hk
      ·exact Nat.le_trans F2.size (k1.k.hD k hk)))⟩))
    have i0:(0:Int)≤i:=by omega
    have i1:(i:Int)<nl:=by omega
    have hn60:nl≤60:=by have:=HFW.1;have:=HNL.out;omega
    have wi:=i6 ((i:Int)+1);clear hr hrj hok hs hrw hty hen hfew k1 hAq HK F4 hL hm hmr hac;obtain⟨c0,c1,c2,c3,c4,c5⟩:=hY;go_wp2_with fail;go_call HAc.out as e w5 ⟨rfl,⟨D,g,ls,par,own,nm,fr,Es,k5⟩,f5⟩;have HS:=hid (z4z k5);have F5:=hid (And.intro f5 (show w2.heap.size≤w2.heap.size from Nat.le_refl _));clear k5 f5 c0 c1 c2 c3 c4 c5 HAc;go_wp2_with fail;go_call HS.out as e w6 ⟨rfl,k6,f6⟩;have K6:=show PlK w1 q w2.heap.size p pn pr w6 from⟨D,g,ls,par,own,nm,fr,Es,k6⟩;have F6:=F5.1.step f6 (fun k hk=> .inr (HQ.out k hk));clear k6 f6 HS F5;go_wp2;go_roundg (gk-1);case measure=>omega
    case rel=>exact⟨i+1,by go_num,by omega,K6,F6⟩
   ·obtain rfl:i=nl:=by omega
    obtain⟨D,g,ls,par,own,nm,fr,Es,k1⟩:=HK.out;have hFl:=zx4 k1.k.c;clear k1 HK;go_wp2_with fail;go_call hFl as e w5 ⟨rfl,-,f5⟩;have F5:=hid (F4.step f5 (fun k hk=> .inr (HQ.out k hk)));have hh:=HHo.out _ F5.out;clear f5 hFl;go_wp2_with fail;go_call hh as e w6 ⟨rfl,f6⟩;have F6:=F5.trans f6;clear f6 hh;go_wp2;go_ret;exact⟨rfl,F6⟩
theorem walk_eplaysW(w:World)(h:TabM w∧Tabs w)(ad:Option Addr)(cap:Nat)(l:List A24)(hA:z22 w ad cap l):Calls prog 3 #[.slice ad l.length cap] w (zN true w):=z48 w h.1 h.2 ad cap l hA
end Go.Proofs.YtghllbkjghnmhaaGreatDoor
