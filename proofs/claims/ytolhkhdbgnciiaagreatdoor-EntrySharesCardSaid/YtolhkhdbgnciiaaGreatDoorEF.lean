/- Several texts in one. -/
import Derived.Test.YtolhkhdbgnciiaaGreatDoorEC
namespace Go.Proofs.YtolhkhdbgnciiaaGreatDoor
open _root_.Go.Proofs.Tryz
open Go.Lib (hid)
open Go.IntWalk (i64_in)
set_option linter.unusedVariables false
set_option linter.unusedSimpArgs false
open Go.RowKit
set_option maxRecDepth 100000
section
open Go.ChangeShapes Go.WideShapes Go.ChangeAt Go.RowKit
structure BytW(w:World)(a:Option Addr)(l:List Nat):Prop where
 at_: ∀i,i<l.length→ ∃g o,a=some ⟨g,o,none⟩∧w.cell? ⟨g,o+i,none⟩=some (.int .u8 ((l[i]?.getD 0:Nat):Int))∧g<w.heap.size
 byte: ∀b∈l,b<256
 len:l.length≤9223372036854775807
theorem BytW.byt{w:World}{a:Option Addr}{l:List Nat}(h:BytW w a l)(hl:l.length≤1099511627776):Byt w a l:=⟨h.at_,h.byte,hl⟩
theorem BytW.fr0{w w':World}{a:Option Addr}{l:List Nat}(h:BytW w a l)(hf:Fr [] w w'):BytW w' a l:=
 ⟨fun i hi=>by
  obtain⟨g,o,e,hc,hg⟩:=h.at_ i hi;exact⟨g,o,e,(hf.cell (p:=⟨g,o+i,none⟩) hg (by simp)).trans hc,Nat.lt_of_lt_of_le hg hf.size⟩,h.byte,h.len⟩
structure RecW(w:World)(ad:Option Addr)(L:List (List Nat)):Prop where
 at_: ∀i,i<L.length→ ∃g o a c,ad=some ⟨g,o,none⟩∧w.cell? ⟨g,o+i,none⟩=some (.slice a (L[i]?.getD []).length c)∧BytW w a (L[i]?.getD [])∧g<w.heap.size∧(L[i]?.getD []).length≤c
 len:L.length≤9223372036854775807
theorem RecW.fr0{w w':World}{ad:Option Addr}{L:List (List Nat)}(h:RecW w ad L)(hf:Fr [] w w'):RecW w' ad L:=
 ⟨fun i hi=>by
  obtain⟨g,o,a,c,e,h1,h2,h3,h4⟩:=h.at_ i hi;exact⟨g,o,a,c,e,(hf.cell (p:=⟨g,o+i,none⟩) h3 (by simp)).trans h1,h2.fr0 hf,Nat.lt_of_lt_of_le h3 hf.size,h4⟩,h.len⟩
theorem RecW.recA{w:World}{ad:Option Addr}{L:List (List Nat)}(h:RecW w ad L)(hl:∀x∈L,x.length≤3000):RecA (fun _=>True) w ad L:=
 ⟨fun i hi=>by
  obtain⟨g,o,a,c,e,h1,h2,h3,_⟩:=h.at_ i hi
  have hx:(L[i]?.getD []).length≤3000:=by
   rw[List.getElem?_eq_getElem hi];exact hl _ (List.getElem_mem hi)
  exact⟨g,o,a,c,e,h1,h2.byt (by omega),h3,trivial,fun _ _ _=>trivial⟩,h.len⟩
theorem zok{H:Type}{enc:TypeId×Value→H}{w:World}{base:Nat}{spare:Nat→Bool}{held:Bool}{fuel:Nat}{v:Value}{x:DataW H×List MemPlace}(hf:DataW.trod enc prog w base spare held fuel 44 [v] =some x):∃a c l,v= .slice a l.length c∧l.length≤c∧BytW w a l:=by
 rcases open_ints underlying44 underlying5 (by kernel_rfl) hf with⟨hcs,hx⟩|⟨ad,len',cap',zs,hcs,_,hl,hm,hz,hx,hcell,hwz⟩
 ·simp at hcs
  exact⟨none,0,[],hcs,Nat.zero_le _,fun i hi=>by simp at hi,fun b hb=>by simp at hb,by simp⟩
 ·simp at hcs
  have hzl:len'≤zs.length:=by rw[hz];split<;>omega
  have hrange:∀z∈zs,0≤z∧z<256:=fun z hz=>by
   have:=hwz z hz;simp only[Lit.wf,IntKind.min,IntKind.max,IntKind.signed,IntKind.bits,Bool.and_eq_true,decide_eq_true_eq]at this;simp at this;omega
  obtain⟨b,off,spot⟩:=ad;have hll:((zs.take len').map Int.toNat).length=len':=by simp[Nat.min_eq_left hzl]
  refine⟨some ⟨b,off,spot⟩,cap',(zs.take len').map Int.toNat,by rw[hll];exact hcs,by rw[hll];exact hl,fun i hi=> ?_,fun x hx=> ?_,by unfold maxLen at hm;omega⟩
  ·have hil:i<len':=by omega
   have hc:=hcell i (by omega)
   have hspot:spot=none:=by
    have:=World.cell?_spot (hcell 0 (by omega));simpa[Addr.add]using this
   subst hspot;have hadd:(⟨b,off,none⟩:Addr).add i=⟨b,off+i,none⟩:=by unfold Addr.add;split<;>simp_all
   rw[hadd]at hc;refine⟨b,off,rfl,?_,zns hc⟩;rw[hc];have hz0:=hrange (zs[i]'(by omega)) (List.getElem_mem _)
   have e:(((zs.take len').map Int.toNat)[i]?.getD 0:Nat)=(zs[i]'(by omega)).toNat:=by
    rw[List.getElem?_map,List.getElem?_take_of_lt hil,List.getElem?_eq_getElem (by omega)];rfl
   rw[e,List.getD_eq_getElem?_getD,List.getElem?_eq_getElem (by omega),Option.getD_some,Int.toNat_of_nonneg hz0.1]
  ·obtain⟨z,hz1,rfl⟩:=List.mem_map.1 hx
   have:=hrange z (List.mem_of_mem_take hz1);omega
theorem zms{H:Type}{enc:TypeId×Value→H}{w:World}{base:Nat}{spare:Nat→Bool}{held:Bool}{fuel:Nat}{v:Value}{x:DataW H×List MemPlace}(hf:DataW.trod enc prog w base spare held fuel 34 [v] =some x):∃a c l,v= .slice a l.length c∧RecW w a l:=by
 rcases Go.Deep.open_slice1 underlying34 (by kernel_rfl) hf with⟨h0,_⟩|⟨ad,len,cap,m,n,V,D,Pl,hcs,hb,hl,hm,hmm,hx,hi⟩
 ·simp at h0
  exact⟨none,0,[],h0,fun i hi=>by simp at hi,by simp⟩
 ·simp at hcs
  by_cases h0:len=0
  ·subst h0
   exact⟨_,_,[],hcs,fun i hi=>by simp at hi,by simp⟩
  obtain⟨b,off,spot⟩:=ad
  have hval0:∀i,i<len→∃d:List Nat,∃a c,w.cell? ((⟨b,off,spot⟩:Addr).add i)=some (.slice a d.length c)∧BytW w a d∧d.length≤c:=fun i him=>by
   obtain⟨hc,ht⟩:=hi i (by rw[hmm];split<;>omega);obtain⟨a1,c1,l1,e,hcc,hs⟩:=zok ht;exact⟨l1,a1,c1,by rw[hc,e],hs,hcc⟩
  have hspot:spot=none:=by
   obtain⟨d,a,c,hd,_⟩:=hval0 0 (by omega);simpa[Addr.add]using World.cell?_spot hd
  subst hspot;have hadd:∀n,(⟨b,off,none⟩:Addr).add n=⟨b,off+n,none⟩:=fun n=>by unfold Addr.add;split<;>simp_all
  have hval:∀i,i<len→∃d:List Nat,(∃a c,w.cell? ⟨b,off+i,none⟩=some (.slice a d.length c)∧BytW w a d∧d.length≤c)∧True:=fun i him=>by
   obtain⟨d,a,c,hd,hb,hc⟩:=hval0 i him;exact⟨d,⟨a,c,by rwa[hadd]at hd,hb,hc⟩,trivial⟩
  obtain⟨l,hl2,hp⟩:=zm7 _ len hval;refine⟨_,_,l,by rw[hl2,hcs],fun i hi=> ?_,by rw[hl2];unfold maxLen at hm;omega⟩;obtain⟨a,c,h1,h2,h3⟩:=(hp i hi).1;rw[List.getElem?_eq_getElem hi];exact⟨b,off,a,c,rfl,h1,h2,zns h1,h3⟩
theorem open_recs{H:Type}{enc:TypeId×Value→H}{w:World}{base b0:Nat}{spare:Nat→Bool}{held:Bool}{r:Reach}{v:Value}{d:DataW H}{p:List MemPlace}
  (hv:Value.okWide prog w r b0 34 v) (h:DataW.Trod enc prog w base spare held 34 v d p):∃a c l,v= .slice a l.length c∧RecW w a l:=by
 obtain⟨a0,len,cap,rfl⟩:=okWide_slice underlying34 hv;obtain⟨fuel,hf⟩:=h;simp only[Value.cells]at hf;exact zms hf
section
variable {H : Type}
end
end
def Few6(L:List (List Nat))(w:World)(e:Ending)(w':World):Prop:= ∃b,e= .returned (.bool b)∧w'=w∧(b=true→L.length≤60∧ ∀x∈L,x.length≤3000)
theorem few6(w:World)(ad:Option Addr)(cap:Nat)(L:List (List Nat))(h:RecW w ad L):Calls prog 17 #[.slice ad L.length cap] w (Few6 L w):=by
 have HA:=hid h;have hle:=h.len;obtain⟨n,hn⟩:∃n,L.length=n:=⟨_,rfl⟩;rw[hn]at hle⊢;have HN:=hid hn;clear hn h;go_enter func17,ntmps17;go_wp2_with fail;go_loopg [3,4] (n+1) (fun gk v3 v4 W=>∃t i:Nat,v3= .int .i64 t∧v4= .int .i64 i∧(i+gk=n+1∧i≤n)∧(t≤3000+9999)∧Hid (t≤3000→∀x∈L.take i,x.length≤t)∧w=W);case atStart=>exact⟨0,0,rfl,rfl,by omega,by omega,hid (fun _ d hd=>by simp at hd),rfl⟩
 case round=>
  obtain⟨t,i,rfl,rfl,hi,ht,HD,rfl⟩:=hrel;by_cases hlt:i<n∧t≤3000
  ·have b6':decide (i<n)=true:=by simp;omega
   have b7:decide ((t:Int)≤3000)=true:=by simp;omega
   have b7':decide (t≤3000)=true:=by simp;omega
   have hL:i<L.length:=by rw[HN.out];exact hlt.1
   obtain⟨g,o,a,c,rfl,hc,hb,hg,_⟩:=HA.out.at_ i hL;have hgd:L[i]?=some L[i] :=List.getElem?_eq_getElem hL;rw[hgd]at hc hb;simp only[Option.getD_some]at hc hb;have hbl:=hb.len;generalize L[i]'hL=x at*;obtain⟨m,hm⟩:∃m,x.length=m:=⟨_,rfl⟩;rw[hm]at hc hbl;obtain⟨k,hk⟩:∃k:Nat,min (m:Int) 9999=k:=⟨min m 9999,by omega⟩;have hk2:k≤9999∧(k≤3000→m=k):=by omega
   have HD2:=hid (show t+k≤3000→∀y∈L.take (i+1),y.length≤t+k from fun h y hy=>by
    rw[List.take_add_one,hgd,Option.toList_some]at hy;rcases List.mem_append.1 hy with h1|h1
    ·have:=HD.out (by omega) y h1;omega
    ·rw[List.mem_singleton]at h1
     rw[h1,hm,hk2.2 (by omega)];omega)
   have i0:(0:Int)≤i:=by omega
   have i1:(i:Int)<n:=by omega
   have wi:=i64_in ((i:Int)+1) (by omega);have wt:IntKind.i64.wrap ((t:Int)+k)=((t+k:Nat):Int):=by rw[i64_in _ (by omega)];push_cast;rfl
   clear hgd hL hb hbl hm;go_wp2_with fail;go_roundg (gk-1);case measure=>omega
   case rel=>exact⟨t+k,i+1,by first|rfl|(push_cast;rfl),by go_num,by omega,by omega,HD2,rfl⟩
  ·obtain⟨b6,h6⟩:∃b6,decide ((i:Int)<n)=b6:=⟨_,rfl⟩
   have h6':decide (i<n)=b6:=by rw[←h6];exact decide_eq_decide.2 (by omega)
   obtain⟨b7,h7⟩:∃b7,decide ((t:Int)≤3000)=b7:=⟨_,rfl⟩;have h7':decide (t≤3000)=b7:=by rw[←h7];exact decide_eq_decide.2 (by omega)
   obtain⟨b8,h8⟩:∃b8,decide ((n:Int)≤60)=b8:=⟨_,rfl⟩;have h8':decide (n≤60)=b8:=by rw[←h8];exact decide_eq_decide.2 (by omega)
   have HR:=hid (show b8=true→b7=true→L.length≤60∧∀x∈L,x.length≤3000 from fun e1 e2=>by
    rw[e1]at h8';rw[e2]at h7';have k1:=of_decide_eq_true h8';have k2:=of_decide_eq_true h7';have k3:i=n:=by omega
    have:=HD.out k2;rw[k3,←HN.out,List.take_length]at this;exact⟨by rw[HN.out];exact k1,fun x hx=>Nat.le_trans (this x hx) k2⟩)
   have hnb:b6=false∨b7=false:=by
    by_cases e:i<n
    ·exact .inr (by rw[←h7'];exact decide_eq_false (fun k=>hlt ⟨e,k⟩))
    ·exact .inl (by rw[←h6'];exact decide_eq_false e)
   clear hlt;cases b6 with
   |true=>
    have e7:b7=false:=hnb.resolve_left (by decide);subst e7;cases b8 with
    |true=>
     clear hnb;go_wp2_with fail;go_ret;exact⟨_,rfl,rfl,fun h=>by cases h⟩
    |false=>
     clear hnb;go_wp2_with fail;go_ret;exact⟨_,rfl,rfl,fun h=>by cases h⟩
   |false=>
    clear hnb;cases b8 with
    |true=>
     go_wp2_with fail;go_ret;exact⟨b7,rfl,rfl,fun h=>HR.out trivial h⟩
    |false=>
     go_wp2_with fail;go_ret;exact⟨_,rfl,rfl,fun h=>by cases h⟩
theorem zeg{α β:Type}{f:α→β}{L:List α}{k:Nat}{x y:α}(h:L[k]?=some x)(hf:f y=f x):(L.set k y).map f=L.map f:=by
 obtain⟨hk,rfl⟩:=List.getElem?_eq_some_iff.1 h;rw[List.map_set,hf,←List.getElem_map f (h:=by simpa using hk),List.set_getElem_self]
theorem zhk:∀(k:Nat) (L L':List (List Nat)),L.map List.length=L'.map List.length→zbs k L=zbs k L'
 |_,[],[],_=>rfl
 |_,[],_::_,h=>by simp at h
 |_,_::_,[],h=>by simp at h
 |k,x::L,y::L',h=>by
  simp only[List.map_cons,List.cons.injEq]at h;unfold zbs;rw[h.1,zhk _ L L' h.2]
theorem zul{L:List (List Nat)}{k:Nat}{x:List Nat}(h:L[k]?=some x):L.flatten=(L.take k).flatten++(x++(L.drop (k+1)).flatten):=by
 conv=>lhs;rw[←List.take_append_drop k L,List.flatten_append]
 congr 1;rw[List.drop_eq_getElem_cons (List.getElem?_eq_some_iff.1 h).1,List.flatten_cons,(List.getElem?_eq_some_iff.1 h).2]
theorem zg9{L:List (List Nat)}{k j b:Nat}{x:List Nat}(h:L[k]?=some x)(hj:j<x.length):zad (L.set k (x.set j b))=(zad L).set (2+2*L.length+(L.take k).flatten.length+j) b:=by
 have hk:=(List.getElem?_eq_some_iff.1 h).1
 have e2:(L.set k (x.set j b)).flatten=(L.take k).flatten++(x.set j b++(L.drop (k+1)).flatten):=by
  rw[List.set_eq_take_append_cons_drop,if_pos hk,List.flatten_append,List.flatten_cons]
 have e3:zbs 0 (L.set k (x.set j b))=zbs 0 L:=zhk _ _ _ (zeg h (by simp));have hl:((zbs 0 L).flatMap le2).length=2*L.length:=by rw[zde,zch]
 unfold zad;rw[List.length_set,e3,e2,zul h,show 2+2*L.length+(L.take k).flatten.length+j=(2*L.length+((L.take k).flatten.length+j))+1+1 from by omega,List.set_cons_succ,List.set_cons_succ,List.set_append_right _ _ (by omega),hl,Nat.add_sub_cancel_left,List.set_append_right _ _ (by omega),Nat.add_sub_cancel_left,List.set_append_left _ _ hj]
theorem GoodR.set{L:List (List Nat)}{k:Nat}{x y:List Nat}(h:GoodR L)(hx:L[k]?=some x)(hy:y.length=x.length):GoodR (L.set k y):=by
 refine⟨by rw[List.length_set];exact h.n,?_⟩;have:=h.s;unfold zci at this⊢;rwa[zeg hx (by rw[hy])]
section
variable {w W : World} {q : MH} {t : TM} {x : Nat}
theorem IsH.poke(h:IsH W q t)(y b:Nat)(hb:b<256)(hx:zab t.a t.s≤y)(hl:y<zae t.a t.s):IsH (W.setCell ⟨q.ga,y,none⟩ (.int .u8 (b:Int))) q (t.setF y 1 (fun _=>b)):=by
 have T:=h.m;have M:=T.m;have f:Fr [q.ga] W (W.setCell ⟨q.ga,y,none⟩ (.int .u8 (b:Int))):=(Fr.refl _ W).setCell (.inl (by simp)) _;have fq:Fr q.blocks W (W.setCell ⟨q.ga,y,none⟩ (.int .u8 (b:Int))):=f.mono (fun _ hm=>by simp at hm;simp[MH.blocks,hm]);have hl':t.ms.l.length=zae t.a t.s:=TM.bytes_len t;have hf:∀j,j<1→(fun _:Nat=>b) j<256:=fun _ _=>hb
 have e1:spl t.ms.l y [b] =(t.setF y 1 (fun _=>b)).bytes:=ze0 y [b] (by simp;omega) rfl rfl (fun i=>by
  rw[zbm T.ok y 1 _ hf hx];by_cases c:y≤i∧i<y+1
  ·rw[if_pos c,if_pos (by simpa using c),show i-y=0 by omega];rfl
  ·rw[if_neg c,if_neg (by simpa using c)])
 have e2:t.ms.l.set y b=spl t.ms.l y [b] :=by
  rw[List.set_eq_take_append_cons_drop,if_pos (by omega)];simp[spl]
 have hl2:(spl t.ms.l y [b]).length=t.ms.l.length:=zb2 _ _ _ (by simp;omega);obtain⟨lk,hw⟩:=M.wt;obtain⟨n1,n2,n3,n4,n5,n6,n7,n8,n9,n10⟩:=M.nes;have hA:=M.ar.set y b (by omega) hb;rw[e2]at hA;have hM:IsM (W.setCell ⟨q.ga,y,none⟩ (.int .u8 (b:Int))) q {t.ms with l:=spl t.ms.l y [b]}:=⟨M.st.fr f (by simp;omega),⟨lk,hw.fr f (by simp;omega) (by simp;omega)⟩,hA,M.ne,M.cfg,hl2.trans M.size,hl2.trans M.grains⟩;rw[e1]at hM;exact h.step ⟨zjh T.ok y 1 _ hf,hM,T.tab.fr fq T.hi,T.hi⟩ fq
theorem z06(w:World)(q:MH)(z:MS)(h:IsM w q z)(x n k:Nat)(hE:x+n≤z.l.length)(hm:∀i,i<n→mayL z.ks ((x+i:Nat):Int) 1 k=true):Calls prog 49 #[.pointer (some ⟨q.m,0,none⟩),.int .i64 x,.int .i64 n,.int .i64 k] w fun e w'=>e= .returned (.slice (some ⟨q.ga,zav x n,none⟩) n n)∧IsM w' q z∧Fr [q.pw] w w':=by
 have hr:=zeo w q z h x n k hE hm;have HZ:=hid (fun W (hM:IsM W q z)=>znc W q.pa q.ga q.cap z.l hM.ar x n hE);clear h;generalize zav x n=o at*;go_enter func49,ntmps49;go_wp2_with fail;with_reducible refine hr.mono ?_
 rintro e w1 ⟨rfl,h1,f1⟩;have c1:=h1.st.cell 1;simp at c1;have H1:=hid h1;clear h1 hr;go_wp2_with fail;with_reducible refine(HZ.out _ H1.out).mono ?_
 rintro e w2 ⟨rfl,rfl⟩;go_wp2_with fail;go_ret;exact⟨rfl,H1.out,f1⟩
theorem z1r(h:IsH w q t)(x':Int)(y:Nat)(hx':x'=y)(b:List Nat)(hb:ByOn t y b.length (fun j=>b[j]?.getD 0))(N:Nat)(hN:N %4=0)(hn:b.length≤N)(hy4:y %4=0)(hl:y+N≤zae t.a t.s)(hk:KdOn t y N 5)(n':Int)(hn':n'=b.length):Calls prog 49 #[.pointer (some ⟨q.m,0,none⟩),.int .i64 x',.int .i64 n',.int .i64 5] w fun e w'=>e= .returned (.slice (some ⟨q.ga,zav y b.length,none⟩) b.length b.length)∧Byt w' (some ⟨q.ga,zav y b.length,none⟩) b∧IsH w' q t∧Fr q.blocks w w':=by
 subst hx' hn';have hl':t.ms.l.length=zae t.a t.s:=TM.bytes_len t;refine(z06 w q t.ms h.m.m y b.length 5 (by rw[hl'];omega) (zmg hl hk hy4 (by decide) b.length hn hN)).mono fun e w' ⟨he,h1,f1⟩=> ?_;have f:Fr q.blocks w w':=f1.pw;have:=h1.ar.part y b.length (by rw[hl'];omega);rw[zjb t y _ (by omega),zjg hb]at this;exact⟨he,this,h.step ⟨h.m.ok,h1,h.m.tab.fr f h.m.hi,h.m.hi⟩ f,f⟩
end
def RecV(w:World)(base:Nat)(v:Value)(g z:Nat)(L:List (List Nat)):Prop:=
 ∃vs,w.ownsRow base 44 1 v L.length vs∧vs.length=L.length∧ ∀(i:Nat) (x:List Nat),L[i]?=some x→ ∃o,vs[i]?=some (.slice (some ⟨g,o,none⟩) x.length x.length)∧(0<x.length→o=z+(L.take i).flatten.length)
section
variable {w w' : World} {base g z : Nat} {v v' : Value} {L : List (List Nat)} {S : List Nat}
theorem RecV.fr(h:RecV w base v g z L)(hf:Fr S w w')(hS:∀k∈S,k<base):RecV w' base v g z L:=by
 obtain⟨vs,h1,h2⟩:=h
 exact⟨vs,zd5 h1 hf (fun k hk he=>by
  have h4:=hS k hk;have:=(zh5 h1 (k:=k) (by unfold ownS;rw[he];simp)).1;omega),h2⟩
theorem RecV.lo{base':Nat}(h:RecV w base v g z L)(hb:base'≤base):RecV w base' v g z L:=by
 obtain⟨vs,h1,h2⟩:=h;exact⟨vs,zf8 h1 hb,h2⟩
theorem RecV.snoc{vs:List Value}{x:List Nat}{o:Nat}(h2:vs.length=L.length)(h3:∀(i:Nat) (x:List Nat),L[i]?=some x→∃o,vs[i]?=some (.slice (some ⟨g,o,none⟩) x.length x.length)∧(0<x.length→o=z+(L.take i).flatten.length))
  (hn:w'.ownsRow base 44 1 v' (L.length+1) (vs++ [.slice (some ⟨g,o,none⟩) x.length x.length])) (ho:0<x.length→o=z+L.flatten.length):RecV w' base v' g z (L++ [x]):=by
 refine⟨_,by rw[List.length_append];exact hn,by simp[h2],fun i y hy=> ?_⟩;by_cases hi:i<L.length
 ·rw[List.getElem?_append_left hi]at hy
  obtain⟨o',k1,k2⟩:=h3 i y hy;exact⟨o',by rw[List.getElem?_append_left (by omega)];exact k1,by rw[List.take_append_of_le_length (by omega)];exact k2⟩
 ·rw[List.getElem?_append_right (by omega)]at hy
  have hl:=(List.getElem?_eq_some_iff.1 hy).1;simp at hl;have e:i=L.length:=by omega
  subst e;simp at hy;subst hy;exact⟨o,by rw[←h2];simp,by rw[List.take_left];exact ho⟩
theorem RecV.at_{i:Nat}{x:List Nat}(h:RecV w base v g z L)(hi:L[i]?=some x):∃gv cap o,v= .slice (some ⟨gv,0,none⟩) L.length cap∧base≤gv∧gv<w.heap.size∧L.length≤cap∧w.cell? ⟨gv,i,none⟩=some (.slice (some ⟨g,o,none⟩) x.length x.length)∧(0<x.length→o=z+(L.take i).flatten.length):=by
 obtain⟨vs,h1,h2,h3⟩:=h;have hl:=(List.getElem?_eq_some_iff.1 hi).1;obtain⟨k1,⟨rfl,k2⟩|⟨gv,cap,cur,rfl,kb,kg,kc,km,ks,kt⟩⟩:=h1
 ·omega
 ·obtain⟨o,e1,e2⟩:=h3 i _ hi
  refine⟨gv,cap,o,rfl,kb,Blk.lt kg,kc,?_,e2⟩;have h3:(cur.toList.take (L.length*1))[i]?=vs[i]?:=by rw[kt]
  rw[List.getElem?_take,if_pos (by omega),e1]at h3;rw[Blk.cell kg,←h3];simp
theorem RecV.recA{y:Nat}(h:RecV w base v g (y+(2+2*L.length)) L)(hb:Byt w (some ⟨g,y,none⟩) (zad L))(h1:1≤L.length)(hL:L.length≤1048576):∃ad cap,v= .slice ad L.length cap∧RecA (fun k=>base≤k∨k=g) w ad L:=by
 obtain⟨x0,hx0⟩:∃x0,L[0]?=some x0:=⟨_,List.getElem?_eq_getElem (by omega)⟩;obtain⟨gv,cap,o,rfl,hb1,hgv,hcap,_,_⟩:=h.at_ hx0;refine⟨_,_,rfl,fun i hi=> ?_,by omega⟩;have hx:=List.getElem?_eq_getElem hi;obtain⟨gv',cap',o,e,_,_,_,hc,ho⟩:=h.at_ hx;injection e with e _ e2;injection e with e;injection e with e;subst e;have ht:=(za0 hx).2;have:=hb.part (2+2*L.length+(L.take i).flatten.length) (L[i]'hi).length o (by rw[zar];omega) (fun h0=>by rw[ho h0];omega);rw[zcs hx]at this;rw[hx];exact⟨gv,0,_,_,rfl,by rw[Nat.zero_add];exact hc,this,hgv,.inl hb1,fun h p e=>by injection e with e;injection e with e;exact .inr e.symm⟩
end
theorem zvt(a b c d:Int)(w:World):(Op.equalIn 10000 182 (.agg #[.int .i64 a,.int .i64 b]) (.agg #[.int .i64 c,.int .i64 d])).run prog w= .ok (a==c&&b==d) w:=by
 rw[show(10000:Nat)=9999+1 from rfl,run_equalIn_struct w 9999 182 _ _ (by kernel_rfl) (by kernel_rfl)];have hF:(prog.fieldsOf 182).toList= [⟨"At",3,0,false,"","",0⟩,⟨"Len",3,1,false,"","",8⟩] :=by kernel_rfl
 rw[hF];have hi:∀(a b:Int) (w:World),(Op.equalIn 9999 3 (.int .i64 a) (.int .i64 b)).run prog w= .ok (a==b) w:=fun a b w=>run_equalIn_int _ 9998 3 .i64 .i64 a b underlying3;refine zek _ _ _ _ _ (.int .i64 a) (.int .i64 c) _ _ (of_decide_eq_true (by kernel_rfl)) (zee _ _ _ rfl) (zee _ _ _ rfl) (fun w=>hi _ _ w) _ ?_;rw[←Bool.and_true (b==d)];refine zek _ _ _ _ _ (.int .i64 b) (.int .i64 d) _ _ (of_decide_eq_true (by kernel_rfl)) (zee _ _ _ rfl) (zee _ _ _ rfl) (fun w=>hi _ _ w) _ ?_;rfl
theorem scut(w:World)(g o m c a n:Nat)(ha:0<a)(hn:a+n≤m)(hm:m≤c)(hc:c≤1099511627776):Calls prog 126 #[.slice (some ⟨g,o,none⟩) m c,.agg #[.int .i64 a,.int .i64 n]] w fun e w'=>∃o',e= .returned (.tuple #[.slice (some ⟨g,o',none⟩) n n,.int .i64 0])∧(0<n→o'=o+a)∧Fr [] w w':=by
 have hE:∀w,(Op.equalIn 10000 182 (.agg #[.int .i64 a,.int .i64 n]) (.agg #[.int .i64 0,.int .i64 0])).run prog w= .ok false w:=fun w=>by
  rw[zvt,show((a:Int)==0)=false from by simp;omega];rfl
 have b1:decide ((a:Int)<0)=false:=by simp
 have b2:decide ((n:Int)<0)=false:=by simp
 have b3':decide (m<a)=false:=by simp;omega
 have b4:decide ((m:Int)-a<n)=false:=by simp;omega
 have ws:=i64_in ((m:Int)-a) (by omega);have x0:(0:Int)≤a:=by omega
 have x1:(a:Int)≤(a:Int)+n:=by omega
 have x2:(a:Int)+n≤c:=by omega
 have hs:a+n-a=n:=by omega
 rcases Nat.eq_zero_or_pos n with h0|h0
 ·subst h0
  go_enter func126,ntmps126;go_wp2_with fail;go_ret2;exact⟨o,rfl,fun h=>absurd h (by omega),(Fr.refl [] w).alloc _⟩
 ·have hn0:¬n=0:=by omega
  go_enter func126,ntmps126;go_wp2_with fail;go_ret2;exact⟨o+a,by show Ending.returned (.tuple #[.slice (some ⟨g,o+a,none⟩) (a+n-a) (a+n-a),.int .i64 0])=_;rw[Nat.add_sub_cancel_left],fun _=>rfl,(Fr.refl [] w).alloc _⟩
theorem zu7(w:World)(g o c z B V base a Z n:Nat)(v:Value)(L:List (List Nat))(x:List Nat)(a':Int)(ea:a'=a)(hB:Blk w B 44 #[.slice (some ⟨g,o,none⟩) z c])(hV:Blk w V 34 #[v])(hv:RecV w base v g Z L)(hVb:V<base)(hb:base≤w.heap.size)(hL:L.length≤16)
  (ha:0<a) (hx:x.length=n) (hn:a+n≤z) (hz:z≤c) (hc:c≤1099511627776) (hZ:o+a=Z+L.flatten.length):
  Calls prog 125 #[.agg #[.int .i64 a',.int .i64 n],.pointer (some ⟨B,0,none⟩),.pointer (some ⟨V,0,none⟩)] w fun e w'=>e= .returned (.tuple #[])∧(∃v',Blk w' V 34 #[v']∧RecV w' base v' g Z (L++ [x]))∧Fr (V::ownS v) w w':=by
 subst ea;have HC:=hid (scut (w.alloc (.cells #[.int .i64 a,.int .i64 n] 182)) g o z c a n ha hn hz hc);have F0:=hid ((Fr.refl [] w).alloc (.cells #[.int .i64 a,.int .i64 n] 182));have hBc:=(F0.out.cell (p:=⟨B,0,none⟩) hB.lt (by simp)).trans (hB.cell 0);simp at hBc;have HVB:=hid (And.intro hV (And.intro hv (And.intro hVb (And.intro hb (And.intro hL (And.intro hx hZ))))));clear hV hv hVb hb hL hn hz hc hZ ha hB hx;go_enter func125,ntmps125;go_wp2_with fail;with_reducible refine HC.out.mono ?_
 rintro e w2 ⟨o',rfl,ho,f2⟩;obtain⟨hV,hv,hVb,hb,hL,hx,hZ⟩:=HVB.out;have f2':=F0.out.trans f2;have bV:=hV.fr f2' (by simp);have hV0:=bV.cell 0;simp at hV0;obtain⟨vs,k1,k2,k3⟩:=hv.fr f2' (by simp);obtain⟨v',w6,hrun,k4,f6⟩:=zg2 w2 base v L.length vs k1 (some ⟨g,o',none⟩) n n (by omega) (Nat.le_trans hb f2'.size);have hVn:V∉ownS v:=za6 k1 bV (by decide)
 obtain⟨ad',cp',rfl⟩:∃ad cp,v'= .slice ad (L.length+1) cp:=by
  obtain⟨_,⟨_,h0⟩|⟨g',cap',cur',e',_⟩⟩:=k4
  ·omega
  ·exact⟨_,_,e'⟩
 have R6:=hid (show RecV w6 base (.slice ad' (L.length+1) cp') g Z (L++ [x])from RecV.snoc k2 k3 (by rw[hx];exact k4) (fun h0=>by rw[ho (by omega)];omega));have B6:=hid (bV.fr f6 hVn);have F6:=hid ((f2'.nil.step f6 (fun k hk=> .inl (by simp[hk])):Fr (V::ownS v) w w6));have HVB:=hid hVb;have e0:=B6.out.cell 0;have z0:=B6.out.frozen 0;simp at e0;generalize L.length+1=n1 at*;clear hV hv hVb hb hL hx hZ f2' k1 k2 k3 k4 f6 ho f2 bV hVn HC F0;go_wp2_with (first|(at_builtin;refine za1 rfl (.tmp 12) (.tmp 14) 34 rfl rfl _ _ _ _ rfl rfl hrun ?_)|fail);go_end0;exact⟨rfl,⟨_,B6.out.set 0 _,R6.out.fr ((Fr.refl [V] w6).setCell (.inl (by simp)) _) (fun k hk=>by simp at hk;rw[hk];exact HVB.out)⟩,F6.out.setCell (.inl (by simp)) _⟩
theorem z0y(w:World)(g o c B V:Nat)(L:List (List Nat))(hG:GoodR L)(hb:Byt w (some ⟨g,o,none⟩) (zad L))(hcz:(zad L).length≤c)(hc2:c≤1099511627776)(hB:Blk w B 44 #[.slice (some ⟨g,o,none⟩) (zad L).length c])(hV:Blk w V 34 #[.slice none 0 0]):Calls prog 124 #[.slice (some ⟨g,o,none⟩) (zad L).length c,.func (.func 125) #[] #[.pointer (some ⟨B,0,none⟩),.pointer (some ⟨V,0,none⟩)]] w fun e w'=>e= .returned (.int .i64 0)∧(∃v,Blk w' V 34 #[v]∧RecV w' w.heap.size v g (o+(2+2*L.length)) L)∧Fr [V] w w':=by
 have HU:=hid (zfa w (some ⟨g,o,none⟩) c L hG hb hcz);have hlen:=zar L;have hn1:=hG.n
 have hby:∀x∈L,∀b∈x,b<256:=fun x hx b hbx=>by
  obtain⟨i,hi,rfl⟩:=List.mem_iff_getElem.1 hx;have h1:=zcs (List.getElem?_eq_getElem hi);rw[←h1]at hbx;exact hb.byte b (List.mem_of_mem_drop (List.mem_of_mem_take hbx))
 have hfl:∀x∈L,x.length≤1099511627776:=fun x hx=>by
  obtain⟨i,hi,rfl⟩:=List.mem_iff_getElem.1 hx;have:=(za0 (List.getElem?_eq_getElem hi)).2;omega
 have HT:=hid (fun k x (hx:L[k]?=some x)=>za0 hx);have HX:=hid (And.intro hB (And.intro hV (And.intro hby (And.intro hfl hlen))));obtain⟨M,hM⟩:∃M:Nat→Nat,(fun k=>(L.take k).flatten.length)=M:=⟨_,rfl⟩;have hM':∀k,(L.take k).flatten.length=M k:=fun k=>by rw[←hM]
 have HM:=hid hM';obtain⟨n,hn⟩:∃n,L.length=n:=⟨_,rfl⟩;obtain⟨z,hz⟩:∃z,(zad L).length=z:=⟨_,rfl⟩;have HN:=hid (And.intro hn hz);rw[hn]at hn1;rw[hz]at HU⊢;obtain⟨K,hK⟩:∃K,2+2*n=K:=⟨_,rfl⟩;have HK:=hid hK;have wa:IntKind.i64.wrap (2*(n:Int))=((2*n:Nat):Int):=by rw[i64_in _ (by omega)];push_cast;rfl
 have wb:IntKind.i64.wrap (2+((2*n:Nat):Int))=(K:Int):=by rw[i64_in _ (by omega)];omega
 have wb':(2:Int)+2*n=(K:Int):=by omega
 have HH:=hid (And.intro hn1 hc2);have hKb:K≤34:=by omega
 have hn16:=hn1.2;rw[hn]at⊢;have HCZ:=hid hcz;have HFB:=hid (show L.flatten.length≤1099511627776 from by omega);clear hM hM' hn hz hK hlen hn1 hby hfl hb hcz hc2 hB hV hG;go_enter func124,ntmps124;go_wp2_with fail;with_reducible refine HU.out.mono ?_
 rintro e w2 ⟨vl,rfl,hO,f2⟩;obtain⟨hB,hV,hby,hfl,hlen⟩:=HX.out;obtain⟨hn,hz⟩:=HN.out;obtain⟨adl,capl,rfl,hA⟩:=hO.recA hby hfl (by have:=HH.out.1;omega);rw[hn];have BV2:=hid (hV.fr f2 (by simp));have HA:=hid hA;have RV2:=hid (show RecV w2 w2.heap.size (.slice none 0 0) g (o+K) (L.take 0)from⟨[],by rw[List.take_zero];exact⟨rfl,.inl ⟨rfl,rfl⟩⟩,by rw[List.take_zero];rfl,fun i x hx=>by rw[List.take_zero]at hx;cases hx⟩);have F2:=hid f2;have hVl:=hV.lt;have hBl:=hB.lt;have HVl:=hid (And.intro hVl hBl);have hBV:B≠V:=Blk.ne_ hB hV (by decide);have HBV:=hid hBV;have B2:=hid (hB.fr f2 (by simp));rw[hz]at B2;clear hB hV hby hfl hlen hn hz hO hA f2 hVl hBl hBV HU HX;go_wp2_with fail;go_loopg [7,21] (n+1) (fun gk v7 v21 W=>∃i:Nat,v7= .int .i64 (K+M i:Nat)∧v21= .int .i64 i∧(i+gk=n+1∧i≤n)∧Hid (∃v,Blk W V 34 #[v]∧RecV W w2.heap.size v g (o+K) (L.take i))∧Hid (Fr [V] w2 W));case atStart=>exact⟨0,by rw[←HM.out 0];rfl,rfl,by omega,⟨_,BV2.out,RV2.out⟩,Fr.refl _ _⟩
 case round=>
  clear BV2 RV2;obtain⟨i,rfl,rfl,hi,R4,F4⟩:=hrel;by_cases hlt:i<n
  ·have b6':decide (i<n)=true:=by simp;omega
   have hL:i<L.length:=by rw[HN.out.1];exact hlt
   have hgd:L[i]?=some L[i] :=List.getElem?_eq_getElem hL;obtain⟨gl,ol,al,cl,rfl,hcl,-,hgl,hP,-⟩:=HA.out.at_ i hL;generalize L[i]'hL=x at*;rw[hgd,Option.getD_some]at hcl;obtain⟨m,hm⟩:∃m,x.length=m:=⟨_,rfl⟩;rw[hm]at hcl;obtain⟨t1,t2⟩:=HT.out i x hgd;have hM1:M (i+1)=M i+m:=by rw[←HM.out,t1,List.length_append,HM.out,hm]
   rw[HM.out,hm]at t2;obtain⟨v,b4,r4⟩:=R4.out;have hglV:gl≠V:=by have:=HVl.out.1;omega
   have hcW:wr.cell? ⟨gl,ol+i,none⟩=some (.slice al m cl):=(F4.out.cell (p:=⟨gl,ol+i,none⟩) hgl (by simpa using hglV)).trans hcl;have hzz:K+(M i+m)≤z:=by have:=HN.out;have:=HK.out;have:=zar L;omega
   have H1:=hid (zu7 wr g o c z B V w2.heap.size (K+M i) (o+K) m v (L.take i) x ((K:Int)+M i) (by push_cast;rfl) (B2.out.fr F4.out (by simpa using HBV.out)) b4 r4 (by have:=HVl.out.1;have:=F2.out.size;omega) F4.out.size (by rw[List.length_take];have:=HH.out.1;omega) (by have:=HK.out;omega) hm (by omega) (by rw[←HN.out.2];exact HCZ.out) HH.out.2 (by rw[HM.out];omega));have i2:(0:Int)≤i:=by omega
   have i3:(i:Int)<n:=by omega
   have wi:=i64_in ((i:Int)+1) (by omega);have hfb:=HFB.out;have wm:IntKind.i64.wrap ((K:Int)+M i+m)=((K+M (i+1):Nat):Int):=by rw[hM1,i64_in _ (by omega)];push_cast;omega
   have HTk:=hid (show L.take (i+1)=L.take i++ [x]from by rw[List.take_add_one,hgd];rfl);have HS:=hid (show∀k∈ownS v,w2.heap.size≤k from fun k hk=>by obtain⟨vs,k1,-⟩:=r4;exact(zh5 k1 hk).1);clear hcl t1 t2 hM1 b4 r4 hglV hzz hgd hL hgl hP hm R4;go_wp2_with fail;with_reducible refine H1.out.mono ?_
   rintro e w5 ⟨rfl,⟨v',b5,r5⟩,f5⟩;have R5:=hid (show∃v,Blk w5 V 34 #[v]∧RecV w5 w2.heap.size v g (o+K) (L.take (i+1))from⟨v',b5,by rw[HTk.out];exact r5⟩)
   have F5:=hid (F4.out.step f5 (fun k hk=>by
    rcases List.mem_cons.1 hk with e|e
    ·exact .inl (by simp[e])
    ·exact .inr (HS.out k e)))
   clear b5 r5 f5 F4 H1;go_wp2_with fail;go_roundg (gk-1);case measure=>omega
   case rel=>exact⟨i+1,by go_num,by go_num,by omega,R5,F5⟩
  ·obtain rfl:i=n:=by omega
   have b6':decide (i<i)=false:=by simp
   go_wp2_with fail;go_ret;obtain⟨v,b4,r4⟩:=R4.out;rw[←HN.out.1,List.take_length]at r4;exact⟨rfl,⟨v,b4,by rw[HK.out];exact r4.lo F2.out.size⟩,F2.out.nil.trans F4.out⟩
theorem zxe(w:World)(g o c:Nat)(L:List (List Nat))(hG:GoodR L)(hb:Byt w (some ⟨g,o,none⟩) (zad L))(hcz:(zad L).length≤c)(hc2:c≤1099511627776):Calls prog 48 #[.slice (some ⟨g,o,none⟩) (zad L).length c] w fun e w'=>∃v,e= .returned (.tuple #[v,.int .i64 0])∧RecV w' w.heap.size v g (o+(2+2*L.length)) L∧Fr [] w w':=by
 have F0:=hid (((Fr.refl [] w).alloc (.cells #[.slice (some ⟨g,o,none⟩) (zad L).length c] 44)).alloc (.cells #[.slice none 0 0] 34));have B0:=Blk.new (w.alloc (.cells #[.slice (some ⟨g,o,none⟩) (zad L).length c] 44)) 34 #[.slice none 0 0];rw[World.size_alloc]at B0;have HE:=hid (z0y _ g o c w.heap.size (w.heap.size+1) L hG (hb.fr F0.out (by simp)) hcz hc2 ((Blk.new w _ _).alloc _) B0);have hbc:=((Blk.new w 44 #[.slice (some ⟨g,o,none⟩) (zad L).length c]).alloc (.cells #[.slice none 0 0] 34)).cell 0;simp at hbc;clear hG hb hcz hc2 B0;generalize(zad L).length=z at*;go_enter func48,ntmps48;go_wp2_with fail;with_reducible refine HE.out.mono ?_
 rintro e w2 ⟨rfl,⟨v,b2,r2⟩,f2⟩;have c0:=b2.cell 0;simp at c0;have R2:=hid (And.intro (r2.lo F0.out.size) (F0.out.step f2 (fun k hk=> .inr (by simp at hk;omega))));clear b2 r2 f2 HE F0;go_wp2_with fail;go_ret2;exact⟨v,rfl,R2.out⟩
section
variable {w0 W : World} {q : MH} {x y n fr : Nat} {u v : TM} {R l : List Nat} {X : HB} {g : EW} {par own : Nat → Nat} {nm : Nat → List (List Nat)}
theorem zyq{Ls:List (List Nat)}(hI:IsH W q u)(hg:EGet q u x X (some ⟨q.m,0,none⟩) x 0)(hsz:X.size=((zad Ls).length:Int))(hon:ByOn u (x+32) (zad Ls).length (fun j=>(zad Ls)[j]?.getD 0))(hlt:∀y∈zad Ls,y<256)(hfit:∃n,32+(zad Ls).length≤n∧n %16=0∧x %16=0∧x+n≤zae u.a u.s∧KdOn u x n 5)(hG:GoodR Ls):Calls prog 18 #[.pointer (some ⟨q.m,0,none⟩),.int .i64 x] W fun e w'=>∃v,e= .returned (.tuple #[v,.int .i64 0])∧RecV w' W.heap.size v q.ga (x+32+(2+2*Ls.length)) Ls∧IsH w' q u∧Fr q.blocks W w':=by
 have HG:=hid (hg W hI);obtain⟨n,n1,n2,n3,n4,n5⟩:=hfit;have hle:=zc2 u.a u.s hI.m.ok.cfg;have hpl:(zad Ls).length≤480:=by rw[zar,←hG.size];exact hG.s
 have hp0:zav (x+32) (zad Ls).length=x+32:=by unfold zav;rw[if_neg (by rw[zar];omega)]
 have HR:=hid (fun V (hV:IsH V q u)=>by have:=z1r hV ((x:Int)+32) (x+32) (by omega) (zad Ls) hon (((zad Ls).length+3)/4*4) (by omega) (by omega) (by omega) (by omega) (fun g g1 g2=>n5 g (by omega) (by omega)) (zad Ls).length rfl;rw[hp0]at this;exact this);have HS:=hid (fun V (hb:Byt V (some ⟨q.ga,x+32,none⟩) (zad Ls))=>zxe V q.ga (x+32) (zad Ls).length Ls hG hb (Nat.le_refl _) (by omega));have HD:=hid (fun V a1 a2 a4 a3 a5 a6 a7 a8 a9 a10 a11 a12=>zx4 (a1:=a1) (a2:=a2) (a4:=a4) (a3:=a3) (a5:=a5) (a6:=a6) (a7:=a7) (a8:=a8) (a9:=a9) (a10:=a10) (a11:=a11) (a12:=a12) V _ q.m x (by omega) rfl);clear n1 n2 n3 n4 n5 hlt hon hI hg hpl hp0 hle;obtain⟨tag,cls,used,label,nm1,next,prev,rf,expiry,ty,size,hash⟩:=X;simp only at HG hsz;subst hsz;generalize(zad Ls).length=z at*;go_enter func18,ntmps18;go_wp2_with fail;with_reducible refine HG.out.mono ?_
 rintro e w1 ⟨rfl,k1,f1⟩;have hlt:=k1.m.lt;have HNA:=hid (show w1.heap.size∉q.blocks from fun hm=>by have:=hlt _ hm;omega);have K1:=hid (k1.alloc (.cells #[.int .i64 tag,.int .i64 cls,.bool used,.int .i64 label,.int .u32 nm1,.int .u32 next,.int .u32 prev,.int .u32 rf,.int .u64 expiry,.int .u16 ty,.int .i64 z,.int .u32 hash,.pointer (some ⟨q.m,0,none⟩),.int .i64 x] 91));have F1:=hid (f1.alloc (.cells #[.int .i64 tag,.int .i64 cls,.bool used,.int .i64 label,.int .u32 nm1,.int .u32 next,.int .u32 prev,.int .u32 rf,.int .u64 expiry,.int .u16 ty,.int .i64 z,.int .u32 hash,.pointer (some ⟨q.m,0,none⟩),.int .i64 x] 91));have A1:=hid (Blk.new w1 91 #[.int .i64 tag,.int .i64 cls,.bool used,.int .i64 label,.int .u32 nm1,.int .u32 next,.int .u32 prev,.int .u32 rf,.int .u64 expiry,.int .u16 ty,.int .i64 z,.int .u32 hash,.pointer (some ⟨q.m,0,none⟩),.int .i64 x]);have dd:=A1.out.cell;have zz:=A1.out.frozen;clear k1 f1 HG hlt;go_wp2_with fail;have hY:=A1.out.drew.cell;clear dd zz;refine wp_region_held_drew (S:=fun W=>∀i,W.cell? ⟨w1.heap.size,i,none⟩=(#[.int .i64 tag,.int .i64 cls,.bool used,.int .i64 label,.int .u32 nm1,.int .u32 next,.int .u32 prev,.int .u32 rf,.int .u64 expiry,.int .u16 ty,.int .i64 z,.int .u32 hash,.pointer (some ⟨q.m,0,none⟩),.int .i64 x])[i]?) (by kernel_rfl) (hY) (fun yH=> ?_);refine tkY 0 yH ?_;refine tkY 1 yH ?_;refine tkY 3 yH ?_;refine tkY 4 yH ?_;refine tkY 5 yH ?_;refine tkC 2 fun K hK=> ?_;go_simp;with_reducible refine(HD.out _ _ _ _ _ _ _ _ _ _ _ _ _).mono ?_
 rintro e w3 ⟨rfl,f3⟩;have K3:=hid (K1.out.drew.fr0 f3);have F3:=hid (F1.out.drew.trans f3.nil);have A3:=hid (A1.out.drew.fr f3 (by simp));have hY:=A3.out.cell;clear f3;go_wp2_with fail;refine hK.out _ _ _ hY fun yH=> ?_;clear hK K;refine tkC 6 fun K hK=> ?_;go_simp;with_reducible refine(HR.out _ K3.out).mono ?_
 rintro e w7 ⟨rfl,hb7,k7,f7⟩;have HS7:=hid (HS.out _ hb7);have K7:=hid k7;have F7:=hid (F3.out.trans f7);have A7:=hid (A3.out.fr f7 HNA.out);have hY:=A7.out.cell;clear hb7 k7 f7;go_wp2_with fail;refine hK.out _ _ _ hY fun yH=> ?_;clear hK K;refine tkC 7 fun K hK=> ?_;go_simp;with_reducible refine HS7.out.mono ?_
 rintro e w8 ⟨v8,rfl,r8,f8⟩;have R8:=hid (And.intro (r8.lo F7.out.size) (And.intro (K7.out.fr0 f8) (F7.out.trans f8.nil)));have hY:=(A7.out.fr f8 (by simp)).cell;clear r8 f8;go_wp2_with fail;refine hK.out _ _ _ hY fun yH=> ?_;clear hK K;refine tkY 8 yH ?_;refine tkY 9 yH ?_;refine tkY 10 yH ?_;refine tkY 11 yH ?_;refine wpAnyH_done (by kernel_rfl) ?_ _;go_wp2_with fail;go_ret2;exact⟨v8,rfl,R8.out⟩
theorem zwg{Ls:List (List Nat)}(h:CP w0 q g l par own nm fr W)(hx:x∈g.R)(hp:g.p x=zad Ls)(hG:GoodR Ls):Calls prog 18 #[.pointer (some ⟨q.m,0,none⟩),.int .i64 x] W fun e w'=>∃v,e= .returned (.tuple #[v,.int .i64 0])∧RecV w' W.heap.size v q.ga (x+32+(2+2*Ls.length)) Ls∧CP w0 q g l par own nm fr w'∧Fr q.blocks W w':=by
 obtain⟨u,X,hI,f,HM,-,-⟩:=h.en hx;obtain⟨f1,-,f3,f4,f5,f6,-⟩:=f;rw[hp]at f3 f4 f5 f6;exact(zyq hI f1 f3 f4 f5 f6 hG).mono fun e w' ⟨v,h1,h2,h3,h4⟩=>⟨v,h1,h2,HM _ h3 h4,h4⟩
end
end Go.Proofs.YtolhkhdbgnciiaaGreatDoor
