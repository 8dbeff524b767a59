/- Several texts in one. -/
import Derived.Test.YtghllbkjghnmhaaGreatDoorMA
namespace Go.Proofs.YtghllbkjghnmhaaGreatDoor
open _root_.Go.Proofs.Tryz
open Go.Lib (hid)
open Go.IntWalk (i64_in)
set_option linter.unusedVariables false
set_option linter.unusedSimpArgs false
open Go.RowKit
set_option maxRecDepth 1000000
set_option maxHeartbeats 8000000
section
open Go.ChangeShapes Go.WideShapes Go.ChangeAt Go.RowKit
theorem zxs(s:ByteArray):za0 (s.data.toList.map UInt8.toNat)=s:=by
 unfold za0;rw[List.map_map]
 have:∀l:List UInt8,l.map (UInt8.ofNat∘UInt8.toNat)=l:=fun l=>by
  induction l with
  |nil=>rfl
  |cons x l ih=>simp[ih]
 rw[this]
structure StrA(w:World)(a:Option Addr)(l:List (List Nat)):Prop where
 at_: ∀i,i<l.length→ ∃g o,a=some ⟨g,o,none⟩∧w.cell? ⟨g,o+i,none⟩=some (.string (za0 (l[i]?.getD [])))∧g<w.heap.size
 lt: ∀s∈l,∀b∈s,b<256
 each: ∀s∈l,s.length≤9223372036854775807
 len:l.length≤9223372036854775807
theorem StrA.fr{w w':World}{a:Option Addr}{l:List (List Nat)}(h:StrA w a l)(hf:Fr [] w w'):StrA w' a l:=
 ⟨fun i hi=>by
  obtain⟨g,o,ha,hc,hg⟩:=h.at_ i hi;exact⟨g,o,ha,(hf.cell (p:=⟨g,o+i,none⟩) hg (by simp)).trans hc,Nat.lt_of_lt_of_le hg hf.size⟩,h.lt,h.each,h.len⟩
end
section
open Go.ChangeShapes Go.WideShapes Go.ChangeAt Go.RowKit
end
section
open Go.ChangeShapes Go.WideShapes Go.ChangeAt Go.RowKit
structure A21 where
 k:Int
 n:Int
 s:List Nat
def A21.cells(d:A21):List Value:= [.int .i64 d.k,.int .i64 d.n,.string (za0 d.s)]
structure A21.Ok(d:A21):Prop where
 k: -9223372036854775808≤d.k∧d.k≤9223372036854775807
 n: -9223372036854775808≤d.n∧d.n≤9223372036854775807
 b: ∀y∈d.s,y<256
 l:d.s.length≤9223372036854775807
end
theorem zxt(w:World)(c:Nat)(hc:c<256):Calls prog 315 #[.int .u8 c] w (zE (.int .u8 (lowB c)) w):=by
 by_cases h1:65≤c
 ·by_cases h2:c≤90
  ·have e:lowB c=c+32:=by unfold lowB;rw[if_neg (by omega)]
   rw[e];have b1:=dT ((65:Int)≤(c:Int));have b2:=dT ((c:Int)≤90);have w1:IntKind.u8.wrap ((c:Int)+32)=((c+32:Nat):Int):=by show((c:Int)+32) %256=_;omega
   go_in;go_wp2;go_ret;exact⟨rfl,rfl⟩
  ·have e:lowB c=c:=by unfold lowB;rw[if_pos (by omega)]
   rw[e];have b1:=dT ((65:Int)≤(c:Int));have b2:=dF ((c:Int)≤90);go_in;go_wp2;go_ret;exact⟨rfl,rfl⟩
 ·have e:lowB c=c:=by unfold lowB;rw[if_pos (by omega)]
  rw[e];have b1:=dF ((65:Int)≤(c:Int));go_in;go_wp2;go_ret;exact⟨rfl,rfl⟩
theorem zxu{l:List Nat}(h:zuz l=true):1≤l.length∧l.length≤63:=by
 unfold zuz at h;rw[Bool.and_eq_true,Bool.and_eq_true,decide_eq_true_eq,decide_eq_true_eq]at h;exact h.1
theorem zxv(w:World)(l:List Nat)(hl:∀b∈l,b<256)(hmx:l.length≤9223372036854775807):Calls prog 272 #[.string (za0 l)] w (zE (.int .i64 (if zuz l then 0 else 20)) w):=by
 have HS:=hid (zu1 l);have HAt:=hid (zu2 l hl);obtain⟨R,hR⟩:∃R:Int,(if zuz l then 0 else 20)=R:=⟨_,rfl⟩
 have HBd:=hid (fun(k c:Nat) (h1:l[k]?=some c) (h2:labB c=false)=>(show(20:Int)=R from by
  rw[←hR,if_neg];intro h;unfold zuz at h;rw[Bool.and_eq_true,List.all_eq_true]at h;have:=h.2 c (List.mem_of_getElem? h1);rw[h2]at this;cases this))
 have HLn:=hid (fun(h1:¬(1≤l.length∧l.length≤63))=>(show(20:Int)=R from by
  rw[←hR,if_neg];intro h;exact h1 (zxu h)))
 have HOk:=hid (fun(h1:1≤l.length) (h2:l.length≤63) (h3:∀i,i<l.length→labB (l[i]?.getD 0)=true)=>(show(0:Int)=R from by
  rw[←hR,if_pos];unfold zuz;rw[decide_eq_true h1,decide_eq_true h2,Bool.true_and,Bool.true_and,List.all_eq_true];intro x hx;obtain⟨i,hi,e⟩:=List.mem_iff_getElem.1 hx;have:=h3 i hi;rw[List.getElem?_eq_getElem hi,Option.getD_some,e]at this;exact this))
 rw[hR];clear hR;generalize hs:za0 l=s at HS HAt⊢;clear hs;by_cases h1:1≤l.length
 ·by_cases h63:l.length≤63
  ·have hsz:s.size=l.length:=HS.out
   clear hmx;generalize hn:l.length=n at*;have HN:=hid hn;clear hn;go_in;go_wp2;go_loopw [3] (fun v W=>∃k:Nat,k≤n∧v= .int .i64 k∧(∀i,i<k→labB (l[i]?.getD 0)=true)∧W=w) (fun v _=>n-(intOf v).toNat);case atStart=>exact⟨0,Nat.zero_le _,rfl,fun i hi=>absurd hi (Nat.not_lt_zero _),rfl⟩
   case round=>
    obtain⟨k,hk,rfl,hbe,rfl⟩:=hrel;have HB:=hid hbe;clear hbe;by_cases hlt:k<n
    ·obtain⟨c,hc⟩:∃c,l[k]?=some c:=⟨_,List.getElem?_eq_getElem (by rw[HN.out];exact hlt)⟩
     have hc256:c<256:=hl c (List.mem_of_getElem? hc);have b0':=dT (k<s.size);have wk:=i6 ((k:Int)+1);have hks:k<s.size:=by omega
     have hat:=HAt.out k hks;rw[hc]at hat;simp only[Option.getD_some]at hat;have HC:=hid hc;clear hc;by_cases c1:c≤32
     ·have d1:=dT ((c:Int)≤32)
      have HE:=hid (HBd.out k c HC.out (by unfold labB;rw[decide_eq_false (by omega)];rfl));clear HBd HLn HOk;go_wp2;go_ret;exact⟨by rw[←HE.out];rfl,rfl⟩
     ·have d1:=dF ((c:Int)≤32)
      have d1':=dF (c≤32);by_cases c2:126<c
      ·have d2:=dT ((126:Int)<(c:Int))
       have HE:=hid (HBd.out k c HC.out (zu4 c (by omega)));clear HBd HLn HOk;go_wp2;go_ret;exact⟨by rw[←HE.out];rfl,rfl⟩
      ·have d2:=dF ((126:Int)<(c:Int))
       have d2':=dF (126<c);by_cases c3:c=46
       ·subst c3
        have HE:=hid (HBd.out k 46 HC.out (by decide));clear HBd HLn HOk;go_wp2;go_ret;exact⟨by rw[←HE.out];rfl,rfl⟩
       ·have d3:((c:Int)==46)=false:=by simp;omega
        have d3':(c==46)=false:=by simp;omega
        have HB2:=hid (show∀i,i<k+1→labB (l[i]?.getD 0)=true from fun i hi=>by
         rcases Nat.lt_or_ge i k with h|h
         ·exact HB.out i h
         ·obtain rfl:i=k:=by omega
          rw[HC.out];show labB c=true;unfold labB;rw[decide_eq_true (by omega),decide_eq_true (by omega),d3'];rfl)
        clear HBd HLn HOk;go_wp2;go_roundw;case rel=>exact⟨k+1,by omega,by go_num,HB2.out,trivial⟩
        case measure=>simp[intOf];omega
    ·obtain rfl:k=n:=by omega
     have HE:=hid (HOk.out h1 h63 HB.out);clear HBd HLn HOk;go_wp2;go_ret;exact⟨by rw[←HE.out];rfl,rfl⟩
  ·have hsz:s.size=l.length:=HS.out
   have HE:=hid (HLn.out (by omega));clear HBd HLn HOk hmx;go_in;go_wp2;go_ret;exact⟨by rw[←HE.out];rfl,rfl⟩
 ·have hsz:s.size=l.length:=HS.out
  have HE:=hid (HLn.out (by omega));clear HBd HLn HOk hmx;go_in;go_wp2;go_ret;exact⟨by rw[←HE.out];rfl,rfl⟩
theorem zxw(w:World)(l:List Nat)(hl:∀b∈l,b<256)(hmx:l.length≤1048576):Calls prog 296 #[.string (za0 l)] w (zR (.string (za0 (l.map lowB))) fun w'=>Fr [] w w'):=by
 have HS:=hid (zu1 l);have HAt:=hid (zu2 l hl)
 have HL:=hid (fun(k c:Nat) (h1:l[k]?=some c)=>(show(l.take k).map lowB++ [lowB c] =(l.take (k+1)).map lowB from by
  rw[List.take_add_one,h1,Option.toList_some,List.map_append];rfl))
 have HLo:=hid (fun W c (hc:c<256)=>zxt W c hc);have HLen:=hid (fun k=>(show((l.take k).map lowB).length≤k from by rw[List.length_map,List.length_take];omega))
 have HLt:=hid (fun k=>(show∀b∈(l.take k).map lowB,b<256 from fun b hb=>by
  obtain⟨y,hy,rfl⟩:=List.mem_map.1 hb;exact zu6 (hl y (List.mem_of_mem_take hy))))
 have HAll:=hid (show(l.take l.length).map lowB=l.map lowB from by rw[List.take_length]);generalize hs:za0 l=s at HS HAt⊢;clear hs;generalize hn:l.length=n at*;have HN:=hid hn;have hsz:s.size=n:=HS.out;clear hn;have HO0:=OwnB.nil w w.heap.size;go_in;go_wp2;go_loopw [3,4] (fun u v W=>∃(k:Nat) (z:Value),z=u∧k≤n∧v= .int .i64 k∧Hid (OwnB W w.heap.size z ((l.take k).map lowB))∧Hid (Fr [] w W)) (fun _ v _=>n-(intOf v).toNat);case atStart=>exact⟨0,_,rfl,Nat.zero_le _,rfl,HO0,hid (Fr.refl _ _)⟩
 case round=>
  obtain⟨k,z,rfl,hk,rfl,HO,HF⟩:=hrel;by_cases hlt:k<n
  ·obtain⟨c,hc⟩:∃c,l[k]?=some c:=⟨_,List.getElem?_eq_getElem (by rw[HN.out];exact hlt)⟩
   have hc256:c<256:=hl c (List.mem_of_getElem? hc);have wk:=i6 ((k:Int)+1);have hks:k<s.size:=by omega
   have hat:=HAt.out k hks;rw[hc]at hat;simp only[Option.getD_some]at hat;have HC:=hid (HL.out k c hc);have hlc:=zu6 hc256;have HLc:=hid (HLo.out wr c hc256);have hlen:=HLen.out k;clear hc
   have hb1:∀W:World,Byt (W.alloc (.cells #[.int .u8 (lowB c)] 5)) (some ⟨W.heap.size,0,none⟩) [lowB c] :=fun W=>⟨fun i hi=>by
    obtain rfl:i=0:=by simpa using hi
    exact⟨W.heap.size,0,rfl,(Blk.new W 5 #[.int .u8 (lowB c)]).cell 0,(Blk.new W 5 #[.int .u8 (lowB c)]).lt⟩,fun b hb=>by simp at hb;omega,by simp⟩
   generalize lowB c=d at*;generalize(l.take k).map lowB=m at*;have hsw:=HF.size;go_wp2_with fail;go_call HLc.out as e w2 ⟨rfl,he⟩;rw[he];clear he HLc;go_wp2_with (at_builtin;refine zbh rfl _ _ rfl rfl w.heap.size _ m rfl (HO.alloc _) _ _ 1 [d] rfl rfl (hb1 _) (by simp;omega) (by simp;omega) ?_;intro v1 W1 hO1 hgr1 hob1);have HO1:=HC.out▸hO1;have HF1:=(HO.alloc _).fr hgr1 (HF.alloc _) (Nat.le_refl _);clear hO1 hgr1 hob1 HO HF;go_wp2;go_roundw;case rel=>exact⟨k+1,v1,rfl,by omega,by go_num,HO1,HF1⟩
   case measure=>simp[intOf];omega
  ·obtain rfl:k=n:=by omega
   obtain⟨a,c,hz,hby,_⟩:=HO.byt (HLt.out k) (by have:=HLen.out k;omega);subst hz;have hcv:=za3 wr a c _ hby;rw[HAll.out]at hcv⊢;generalize(l.map lowB).length=ln at*;clear HL HLo HLen HLt HAll hby HO;go_wp2;go_ret;exact⟨rfl,HF.out⟩
theorem Rem.trans{own par:Nat→Nat}{l m k:List Nat}(h:Rem own par l m)(h2:Rem own par m k):Rem own par l k:=by
 induction h2 with
 |refl=>exact h
 |step _ h3 h4 h5 ih=>exact .step ih h3 h4 h5
def kpB(own par:Nat→Nat)(l:List Nat)(y:Nat):Bool:= !(decide (own y=0)&&decide (bel par l y=0))
def keepL(own par:Nat→Nat)(l:List Nat)(k:Nat):List Nat:=(l.take k).filter (kpB own par l)
structure RN(base:Nat)(v1 v2 v3:Value)(l:List Nat)(own par:Nat→Nat)(W:World):Prop where
 a:Rw W base v1 l
 s:Rw W base v2 (l.map par)
 m:Rw W base v3 (l.map own)
 d12:Dj v1 v2
 d13:Dj v1 v3
 d23:Dj v2 v3
section
end
structure zxx(w0:World)(q:MH)(base:Nat):Prop where
 q: ∀k∈q.blocks,k<base
 g:5≤base
 w:w0.heap.size≤base
section
variable{w0 W W':World}{q:MH}{S:SS}{u:TM}{u0:EW}{L:Nat→Prop}{l:List Nat}{E:Nat→HB}{B:Nat→List Nat}{par refs:Nat→Nat}{fr base:Nat}{Bs:List Nat}
theorem WB.frL(g:WB w0 q S L u E B W)(ok:zxx w0 q base)(hf:Fr Bs W W')(hB:∀k∈Bs,base≤k):WB w0 q S L u E B W':=
 ⟨⟨g.h.m.fr hf (fun k hk hm=>by have:=ok.q k hk;have:=hB k hm;omega) (fun k hk hm=>by have:=hB k hm;have:=ok.g;omega),g.h.tabs.fr hf (fun k hk=>by have:=hB k hk;have:=ok.g;omega),g.h.hi⟩,g.sl,g.ix,g.rh,g.ct,g.a,g.s,g.ft,g.f.step hf (fun k hk=> .inr (Nat.le_trans ok.w (hB k hk))),g.hq,g.fl⟩
theorem NI.frL(g:NI w0 q S L l u E B W)(ok:zxx w0 q base)(hf:Fr Bs W W')(hB:∀k∈Bs,base≤k):NI w0 q S L l u E B W':=⟨g.wb.frL ok hf hB,g.nd,g.mem,g.cnt,g.inx,g.up,g.hs,g.lb,g.one⟩
theorem NP.frL(g:NP w0 q u0 l par refs B fr W)(ok:zxx w0 q base)(hf:Fr Bs W W')(hB:∀k∈Bs,base≤k):NP w0 q u0 l par refs B fr W':=by
 obtain⟨S,L,u,E,B0,h1,h2⟩:=g;exact⟨S,L,u,E,B0,h1.frL ok hf hB,h2⟩
theorem NP.bok(g:NP w0 q u0 l par refs B fr W):zxx w0 q W.heap.size:=by
 obtain⟨S,L,u,E,B0,h1,_⟩:=g;refine⟨h1.wb.lt,?_,h1.wb.f.size⟩;have h2':=h1.wb.h.tabs.size;omega
end
structure NmOk(l:List Nat)(par:Nat→Nat)(B:Nat→List Nat)(nm:Nat→List (List Nat)):Prop where
 z:nm 0= []
 s: ∀y∈l,nm y=B y::nm (par y)
def CP(w0:World)(q:MH)(u0:EW)(l:List Nat)(par own:Nat→Nat)(nm:Nat→List (List Nat))(fr:Nat)(W:World):Prop:=
 ∃refs B,NP w0 q u0 l par refs B fr W∧NmOk l par B nm∧(∀y∈l,refs y=own y+bel par l y)∧Firm own par l∧(∀y,y∉l→own y=0)
section
variable{w0 W W':World}{q:MH}{u0:EW}{l:List Nat}{par refs own:Nat→Nat}{B:Nat→List Nat}{nm:Nat→List (List Nat)}{fr x a:Nat}{b:List Nat}
theorem NP.one(h:NP w0 q u0 l par refs B fr W){x y:Nat}(hx:x∈l)(hy:y∈l)(h1:par x=par y)(h2:B x=B y):x=y:=by
 obtain⟨S,L,u,E,B0,g,_,_,r,_⟩:=h;exact g.one x hx y hy (by rw[(r x hx).1,(r y hy).1,h1]) (by rw[(r x hx).2.2,(r y hy).2.2,h2])
theorem NmOk.ne(k:NmOk l par B nm){y:Nat}(hy:y∈l):nm y≠ [] :=by rw[k.s y hy];exact List.cons_ne_nil _ _
theorem zxy(h:NP w0 q u0 l par refs B fr W)(k:NmOk l par B nm):∀(n:Nat) {x y:Nat},(nm x).length≤n→(x=0∨x∈l)→(y=0∨y∈l)→nm x=nm y→x=y
 |n,x,y,hn,.inl hx,.inl hy,e=>hx.trans hy.symm
 |n,x,y,hn,.inl hx,.inr hy,e=>absurd (e.symm.trans (hx▸k.z)) (k.ne hy)
 |n,x,y,hn,.inr hx,.inl hy,e=>absurd (e.trans (hy▸k.z)) (k.ne hx)
 |0,x,y,hn,.inr hx,.inr hy,e=>absurd (List.length_eq_zero_iff.1 (Nat.le_zero.1 hn)) (k.ne hx)
 |n+1,x,y,hn,.inr hx,.inr hy,e=>by
  rw[k.s x hx]at hn;rw[k.s x hx,k.s y hy]at e;injection e with e1 e2;rw[List.length_cons]at hn;exact h.one hx hy (zxy h k n (by omega) (h.up hx) (h.up hy) e2) e1
theorem zxz(h:NP w0 q u0 l par refs B fr W)(k:NmOk l par B nm):∀(s t:List (List Nat)) {y:Nat},(y=0∨y∈l)→nm y=s++t→∃z,(z=0∨z∈l)∧nm z=t
 | [],t,y,hy,e=>⟨y,hy,e⟩
 |a::s,t,y,.inl hy,e=>by rw[hy,k.z]at e;cases e
 |a::s,t,y,.inr hy,e=>by
  rw[k.s y hy]at e;injection e with e1 e2;exact zxz h k s t (h.up hy) e2
theorem CP.inj(h:CP w0 q u0 l par own nm fr W){x y:Nat}(hx:x=0∨x∈l)(hy:y=0∨y∈l)(e:nm x=nm y):x=y:=by
 obtain⟨refs,B,h1,h2,_⟩:=h;exact zxy h1 h2 _ (Nat.le_refl _) hx hy e
theorem CP.suf(h:CP w0 q u0 l par own nm fr W){y:Nat}(hy:y=0∨y∈l){s t:List (List Nat)}(e:nm y=s++t):∃z,(z=0∨z∈l)∧nm z=t:=by
 obtain⟨refs,B,h1,h2,_⟩:=h;exact zxz h1 h2 s t hy e
theorem CP.z(h:CP w0 q u0 l par own nm fr W):nm 0= [] :=by
 obtain⟨refs,B,_,h2,_⟩:=h;exact h2.z
theorem CP.nd(h:CP w0 q u0 l par own nm fr W):l.Nodup:=by
 obtain⟨refs,B,h1,_⟩:=h;exact h1.nd
theorem CP.few(h:CP w0 q u0 l par own nm fr W):l.length≤224:=by
 obtain⟨refs,B,h1,_⟩:=h;exact h1.few
theorem CP.rng(h:CP w0 q u0 l par own nm fr W)(hx:x∈l):x≠0∧x<1048576:=by
 obtain⟨refs,B,h1,_⟩:=h;exact h1.rng hx
theorem CP.fr0(h:CP w0 q u0 l par own nm fr W)(hf:Fr [] W W'):CP w0 q u0 l par own nm fr W':=by
 obtain⟨refs,B,h1,h2⟩:=h;exact⟨refs,B,h1.fr0 hf,h2⟩
theorem CP.lab(h:CP w0 q u0 l par own nm fr W)(hx:x∈l):∀s∈nm x,zuz s=true∧s.map lowB=s:=by
 obtain⟨refs,B,h1,h2,_⟩:=h
 have:∀(n:Nat) {y:Nat},(nm y).length≤n→(y=0∨y∈l)→∀s∈nm y,zuz s=true∧s.map lowB=s:=fun n=>by
  induction n with
  |zero=>
   intro y hn hy s hs;rw[List.length_eq_zero_iff.1 (Nat.le_zero.1 hn)]at hs;cases hs
  |succ n ih=>
   intro y hn hy s hs;rcases hy with hy|hy
   ·rw[hy,h2.z]at hs;cases hs
   ·rw[h2.s y hy]at hs hn
    rcases List.mem_cons.1 hs with e|hs
    ·rw[e];exact h1.lab hy
    ·exact ih (by rw[List.length_cons]at hn;omega) (h1.up hy) s hs
 exact this _ (Nat.le_refl _) (.inr hx)
theorem zx0(h:CP w0 q u0 l par own nm fr W)(ha:a=0∨a∈l)(hb:∀k∈b,k<256):Calls prog 286 #[q,a,.string (za0 b)] W fun e w'=>CP w0 q u0 l par own nm fr w'∧Fr q.blocks W w'∧((∃x:Nat,e= .returned (.tuple #[x,true])∧x∈l∧zuz b=true∧nm x=b.map lowB::nm a)∨(e= .returned (.tuple #[(0:Int),false])∧∀x∈l,nm x≠b.map lowB::nm a)):=by
 obtain⟨refs,B,h1,h2,h3⟩:=h;refine(zxk h1 ha hb).mono fun e w' ⟨he,g1,g2⟩=>⟨⟨refs,B,g1,h2,h3⟩,g2,?_⟩;by_cases hk:zuz b=true
 ·rw[if_pos hk]at he
  cases hf:fndP l par B a (b.map lowB)with
  |some x=>
   rw[hf]at he;have hm:=List.mem_of_find?_eq_some hf;have hp:=List.find?_some hf;simp at hp;exact .inl ⟨x,he,hm,hk,by rw[h2.s x hm,hp.1,hp.2]⟩
  |none=>
   rw[hf]at he;refine .inr ⟨he,fun x hx e=> ?_⟩;rw[h2.s x hx]at e;injection e with e1 e2;have:=zxy h1 h2 _ (Nat.le_refl _) (h1.up hx) ha e2;have hn:=(List.find?_eq_none.1 hf) x hx;simp at hn;exact hn this e1
 ·rw[if_neg hk]at he
  refine .inr ⟨he,fun x hx e=> ?_⟩;rw[h2.s x hx]at e;injection e with e1 e2;have:=(h1.lab hx).1;rw[e1,zwx]at this;exact hk this
theorem CP.firm(h:CP w0 q u0 l par own nm fr W):Firm own par l:=by
 obtain⟨refs,B,_,_,_,h4,_⟩:=h;exact h4
theorem CP.out(h:CP w0 q u0 l par own nm fr W){y:Nat}(hy:y∉l):own y=0:=by
 obtain⟨refs,B,_,_,_,_,h5⟩:=h;exact h5 y hy
theorem CP.up(h:CP w0 q u0 l par own nm fr W)(hx:x∈l):par x=0∨par x∈l:=by
 obtain⟨refs,B,h1,_⟩:=h;exact h1.up hx
theorem Rem.gone{own par:Nat→Nat}{l m:List Nat}(h:Rem own par l m):∀y∈l,y∉m→own y=0:=by
 induction h with
 |refl=>exact fun y hy hn=>absurd hy hn
 | @step m x h1 h2 h3 h4 ih=>
  intro y hy hn;by_cases hm:y∈m
  ·by_cases e:y=x
   ·rw[e];exact h3
   ·exact absurd ((List.mem_erase_of_ne e).2 hm) hn
  ·exact ih y hy hm
theorem zx1(h:CP w0 q u0 l par own nm fr W)(hx:x∈l)(ho:own x≤4000000000):Calls prog 287 #[q,x] W (zR (0:Int) fun w'=>CP w0 q u0 l par (_root_.Go.Proofs.YtghllbkjghnmhaaGreatDoor.up own x (own x+1)) nm fr w'∧Fr q.blocks W w'):=by
 obtain⟨refs,B,h1,h2,h3,h4,h5⟩:=h;have hr:=h3 x hx;have hb:=zxf par l x;have hf:=h1.few;refine(zxo h1 hx (by omega)).mono fun e w' ⟨he,g1,g2⟩=>⟨he,⟨_,B,g1,h2,fun y hy=> ?_,fun y hy h0=> ?_,fun y hy=> ?_⟩,g2⟩
 ·by_cases e:y=x
  ·rw[e,zf1,zf1];omega
  ·rw[zf2 _ _ e,zf2 _ _ e];exact h3 y hy
 ·by_cases e:y=x
  ·rw[e,zf1]at h0;omega
  ·rw[zf2 _ _ e]at h0;exact h4 y hy h0
 ·rw[zf2 _ _ (fun e=>hy (by rw[e];exact hx))];exact h5 y hy
theorem zx2(h:CP w0 q u0 l par own nm fr W)(hx:x∈l)(k:Nat)(ho:own x=k+1):Calls prog 137 #[q,x] W fun e w'=>∃n l1 fr1,e= .returned (.tuple #[(n:Nat),(0:Int)])∧Fr q.blocks W w'∧CP w0 q u0 l1 par (_root_.Go.Proofs.YtghllbkjghnmhaaGreatDoor.up own x k) nm fr1 w'∧Rem (_root_.Go.Proofs.YtghllbkjghnmhaaGreatDoor.up own x k) par l l1∧n+l1.length=l.length:=by
 obtain⟨refs,B,h1,h2,h3,h4,h5⟩:=h;refine(zxp (own:=_root_.Go.Proofs.YtghllbkjghnmhaaGreatDoor.up own x k) h1 hx (fun y hy=> ?_) (fun y hy hne h0=> ?_)).mono fun e w' ⟨n,l1,refs1,fr1,g1,g2,g3,g4,g5,g6,g7⟩=>⟨n,l1,fr1,g1,g2,⟨refs1,B,g3,⟨h2.z,fun y hy=>h2.s y (g4.sub.subset hy)⟩,g6,g7,fun y hy=> ?_⟩,g4,g5⟩
 ·by_cases e:y=x
  ·subst e
   rw[zf1,if_pos rfl,h3 y hy,ho];omega
  ·rw[zf2 _ _ e,if_neg e,h3 y hy];omega
 ·rw[zf2 _ _ hne]at h0
  exact h4 y hy h0
 ·by_cases hl:y∈l
  ·exact g4.gone y hl hy
  ·rw[zf2 _ _ (fun e=>hl (by rw[e];exact hx))];exact h5 y hl
theorem zx3(h:CP w0 q u0 l par own nm fr W):Calls prog 41 #[q] W (zR l.length fun w'=>CP w0 q u0 l par own nm fr w'∧Fr q.blocks W w'):=by
 obtain⟨refs,B,h1,h2⟩:=h;exact(zxm h1).mono fun e w' ⟨he,g1,g2⟩=>⟨he,⟨refs,B,g1,h2⟩,g2⟩
theorem zx4(h:CP w0 q u0 l par own nm fr W):Calls prog 11 #[q] W (zR (0:Int) fun w'=>CP w0 q u0 l par own nm fr w'∧Fr q.blocks W w'):=by
 obtain⟨refs,B,h1,h2⟩:=h;exact(zxq h1).mono fun e w' ⟨he,g1,g2⟩=>⟨he,⟨refs,B,g1,h2⟩,g2⟩
theorem CP.frL{base:Nat}{Bs:List Nat}(h:CP w0 q u0 l par own nm fr W)(ok:zxx w0 q base)(hf:Fr Bs W W')(hB:∀k∈Bs,base≤k):CP w0 q u0 l par own nm fr W':=by
 obtain⟨refs,B,h1,h2⟩:=h;exact⟨refs,B,h1.frL ok hf hB,h2⟩
theorem CP.bok(h:CP w0 q u0 l par own nm fr W):zxx w0 q W.heap.size:=by
 obtain⟨refs,B,h1,_⟩:=h;exact h1.bok
theorem CP.start(h:NP w0 q u0 [] par refs B fr W):CP w0 q u0 [] par (fun _=>0) (fun _=> []) fr W:=
 ⟨refs,B,h,⟨rfl,fun _ hy=>(nomatch hy)⟩,fun y hy=>(nomatch hy),fun y hy=>(nomatch hy),fun _ _=>rfl⟩
theorem zx5(h:CP w0 q u0 l par own nm fr W)(hx:x∈l):Calls prog 40 #[q,x] W (zR (.int .i64 (own x+bel par l x:Nat)) fun w'=>CP w0 q u0 l par own nm fr w'∧Fr q.blocks W w'):=by
 obtain⟨refs,B,h1,h2⟩:=h;refine(zxl h1 hx).mono fun e w' ⟨he,g1,g2⟩=>⟨?_,⟨refs,B,g1,h2⟩,g2⟩;rw[he,h2.2.1 x hx]
end
def AllT(S:SS)(l R:List Nat)(L:Nat→Prop)(x:Nat):Prop:=(∀y m,Lv 7 S y m→y=x∨y∈l∨y∈R)∧ ∀y∈R,L y∧y∉l
def NPT(w0:World)(q:MH)(u0:EW)(l:List Nat)(par refs:Nat→Nat)(B:Nat→List Nat)(x c:Nat)(W:World):Prop:=
 ∃S L u E B0,NI w0 q S L l u E B0 W∧Fx u S L x c∧AllT S l u0.R L x∧EnD u0 u E B0∧(∀y∈l,(E y).name=par y∧(E y).refs=refs y∧B0 y=B y)
section
variable{w0 W W':World}{q:MH}{u0:EW}{l:List Nat}{par refs own:Nat→Nat}{B:Nat→List Nat}{nm:Nat→List (List Nat)}{fr x p a c:Nat}{b:List Nat}
theorem NPT.fr0(h:NPT w0 q u0 l par refs B x c W)(hf:Fr [] W W'):NPT w0 q u0 l par refs B x c W':=by
 obtain⟨S,L,u,E,B0,h1,h2⟩:=h;exact⟨S,L,u,E,B0,h1.fr0 hf,h2⟩
theorem NPT.ne(h:NPT w0 q u0 l par refs B x c W):x∉l∧x≠0∧x<1048576:=by
 obtain⟨S,L,u,E,B0,g,hfx,_⟩:=h;have h1:=g.wb.at_ hfx.lv;have h2:=g.wb.base;have h3:=g.wb.cz;have h4:zdw 7 224≤1048576:=by decide
 exact⟨fun hm=>hfx.no ((g.mem x).1 hm).1,by omega,by omega⟩
theorem zx6(h:NP w0 q u0 l par refs B fr W)(hc:1≤c∧c≤9):Calls prog 56 #[q,c] W fun e w'=>∃x r:Nat,e= .returned (.tuple #[x,r])∧Fr q.blocks W w'∧((r=5∧NP w0 q u0 l par refs B 0 w')∨(r=0∧NPT w0 q u0 l par refs B x c w')):=by
 obtain⟨S,L,u,E,B0,g,ha,hrt,r,_⟩:=h;refine(zwg g.wb c hc).mono fun e w' ⟨x,rr,he,f2,ht⟩=>⟨x,rr,he,f2,?_⟩;rcases ht with⟨hr,_,hd0,v,hS,hw⟩|⟨hr,S',v,hS,hw,hfx,htk⟩
 ·have hl0:lst 7 S.inn 0= [] :=by
   cases hl:lst 7 S.inn 0 with
   |nil=>rfl
   |cons a t=>rw[hl]at hd0;cases hd0
  exact .inl ⟨hr,S,L,v,E,B0,g.re hw (fun y=>⟨rfl,rfl,rfl⟩) hS.sl (hS.rt 17 (.inr (by decide))),ha,hrt.to (RtQ.sla hS) (fun _ _=>⟨rfl,rfl⟩),r,by rw[hl0];rfl⟩
 ·exact .inr ⟨hr,S',L,v,E,B0,g.re hw (fun y=>⟨rfl,rfl,rfl⟩) hS.sl (hS.rt 17 (.inr (by decide))),hfx,⟨fun y m hy=>(htk.all y m hy).imp id (ha.1 y m),ha.2⟩,hrt.to (RtQ.sla hS) (fun _ _=>⟨rfl,rfl⟩),r⟩
theorem zx7(h:NPT w0 q u0 l par refs B x (clsN (16+b.length)) W)(hp:p=0∨p∈l)(hb:∀k∈b,k<256)(hk:zuz b=true)(hno:fndP l par B p (b.map lowB)=none)(hrf:p≠0→refs p+1<4294967296):Calls prog 225 #[q,x,p,.string (za0 b)] W (zR (0:Int) fun w'=>Fr q.blocks W w'∧∃fr1,NP w0 q u0 (l++ [x]) (up par x p) (refN refs x p) (up B x (b.map lowB)) fr1 w'):=by
 obtain⟨S',L,v,E,B0,gi,hfx,ha,hrt,r⟩:=h;have hfn:fndN l E B0 p (b.map lowB)=none:=by rw[zxj r];exact hno
 refine(zxa gi hfx hp hb hk hfn (fun hp0=>by rw[(r p (hp.resolve_left hp0)).2.1];exact hrf hp0)).mono fun e w' ⟨h1,h2,v',E',B',h3,h4,h5⟩=>⟨h1,h2,?_⟩;have hxl:x∉l:=fun hm=>hfx.no ((gi.mem x).1 hm).1;have hRx:∀y∈u0.R,y≠x:=fun y hy e=>hfx.no (by rw[←e];exact(ha.2 y hy).1);refine⟨_,S',_,v',E',B',h3,⟨fun y m hy=> ?_,fun y hy=>⟨.inr (ha.2 y hy).1,fun hm=> ?_⟩⟩,hrt.to h5 (fun y hy=>⟨h4.eq y (hRx y hy) (fun e=> ?_),h4.bb y (hRx y hy)⟩),fun y hy=> ?_,rfl⟩
 ·rcases ha.1 y m hy with k|k|k
  ·exact .inl (List.mem_append_right _ (List.mem_singleton.2 k))
  ·exact .inl (List.mem_append_left _ k)
  ·exact .inr k
 ·rcases List.mem_append.1 hm with k|k
  ·exact(ha.2 y hy).2 k
  ·exact hRx y hy (List.mem_singleton.1 k)
 ·rcases hp with k|k
  ·exact(gi.wb.ne0 (ha.2 y hy).1).1 (e.trans k)
  ·exact(ha.2 y hy).2 (by rw[e];exact k)
 ·rw[List.mem_append,List.mem_singleton]at hy
  by_cases e:y=x
  ·subst e
   rw[h4.nm,h4.rf,h4.bx,zf1,zf1];refine⟨rfl,?_,rfl⟩;unfold refN;rw[if_pos rfl]
  ·have hy':=hy.resolve_right e
   rw[(h4.ee y e).2.1,h4.rr y e (gi.lt hy').1,h4.bb y e,zf2 _ _ e,zf2 _ _ e];refine⟨(r y hy').1,?_,(r y hy').2.2⟩;unfold refN;rw[if_neg e,(r y hy').2.1]
def CPT(w0:World)(q:MH)(u0:EW)(l:List Nat)(par own:Nat→Nat)(nm:Nat→List (List Nat))(x c:Nat)(W:World):Prop:=
 ∃refs B,NPT w0 q u0 l par refs B x c W∧NmOk l par B nm∧(∀y∈l,refs y=own y+bel par l y)∧Firm own par l∧(∀y,y∉l→own y=0)
theorem CPT.fr0(h:CPT w0 q u0 l par own nm x c W)(hf:Fr [] W W'):CPT w0 q u0 l par own nm x c W':=by
 obtain⟨refs,B,h1,h2⟩:=h;exact⟨refs,B,h1.fr0 hf,h2⟩
theorem zx8(h:CP w0 q u0 l par own nm fr W)(hc:1≤c∧c≤9):Calls prog 56 #[q,c] W fun e w'=>∃x r:Nat,e= .returned (.tuple #[x,r])∧Fr q.blocks W w'∧((r=5∧CP w0 q u0 l par own nm 0 w')∨(r=0∧CPT w0 q u0 l par own nm x c w')):=by
 obtain⟨refs,B,h1,h2⟩:=h;refine(zx6 h1 hc).mono fun e w' ⟨x,r,he,f,hh⟩=>⟨x,r,he,f,?_⟩;rcases hh with⟨k1,k2⟩|⟨k1,k2⟩
 ·exact .inl ⟨k1,refs,B,k2,h2⟩
 ·exact .inr ⟨k1,refs,B,k2,h2⟩
def CPM(w0:World)(q:MH)(u0:EW)(l:List Nat)(par own:Nat→Nat)(nm:Nat→List (List Nat))(p x:Nat)(W:World):Prop:=
 ∃refs B fr,NP w0 q u0 (l++ [x]) par refs B fr W∧x∉l∧par x=p∧NmOk (l++ [x]) par B nm∧(∀y∈l++ [x],refs y=own y+bel par (l++ [x]) y)∧Firm own par l∧(∀y,y∉l→own y=0)∧ ∀y∈l++ [x],par y≠x
theorem CPM.fr0(h:CPM w0 q u0 l par own nm p x W)(hf:Fr [] W W'):CPM w0 q u0 l par own nm p x W':=by
 obtain⟨refs,B,fr,h1,h2⟩:=h;exact⟨refs,B,fr,h1.fr0 hf,h2⟩
theorem zx9{refs:Nat→Nat}{s:List Nat}(hn:NP w0 q u0 (l++ [x]) (up par x p) (refN refs x p) (up B x s) fr W)(hxl:x∉l)(hx0:x≠0)(hp:p=0∨p∈l)(hpn:∀y∈l,par y=0∨par y∈l)
  (h2:NmOk l par B nm) (h3:∀y∈l,refs y=own y+bel par l y) (h4:Firm own par l) (h5:∀y,y∉l→own y=0):CPM w0 q u0 l (up par x p) own (up nm x (s::nm p)) p x W:=by
 have hpx:p≠x:=fun e=>by
  rcases hp with k|k
  ·exact hx0 (e.symm.trans k)
  ·exact hxl (e▸k)
 have hpy:∀y∈l,par y≠x:=fun y hy e=>by
  rcases hpn y hy with k|k
  ·exact hx0 (e.symm.trans k)
  ·exact hxl (e▸k)
 refine⟨_,_,fr,hn,hxl,zf1 _ _ _,⟨?_,fun y hy=> ?_⟩,fun y hy=> ?_,fun y hy h0=> ?_,h5,fun y hy=> ?_⟩
 ·rw[zf2 _ _ (Ne.symm hx0)];exact h2.z
 ·rcases List.mem_append.1 hy with k|k
  ·have e:y≠x:=fun e=>hxl (e▸k)
   rw[zf2 _ _ e,zf2 _ _ e,zf2 _ _ e,zf2 _ _ (hpy y k)];exact h2.s y k
  ·rw[List.mem_singleton]at k
   subst k;rw[zf1,zf1,zf1,zf2 _ _ hpx]
 ·have hb0:bel (up par x p) (l++ [x]) y=bel par l y+(if p=y then 1 else 0):=by
   rw[zxd,zf1,zxe (fun z hz=>zf2 _ _ (fun e=>hxl (by rw[←e];exact hz)))]
  rw[hb0];unfold refN;by_cases e:y=x
  ·subst e
   rw[if_pos rfl,if_neg hpx,h5 y hxl]
   have:bel par l y=0:=by
    by_cases h0:bel par l y=0
    ·exact h0
    ·obtain⟨z,hz,e⟩:=bel_pos.1 h0
     exact absurd e (hpy z hz)
   omega
  ·rw[if_neg e]
   rcases List.mem_append.1 hy with k|k
   ·rw[h3 y k]
    by_cases ep:y=p
    ·rw[if_pos ep,if_pos ep.symm];omega
    ·rw[if_neg ep,if_neg (fun k=>ep k.symm)];omega
   ·exact absurd (List.mem_singleton.1 k) e
 ·obtain⟨z,hz,e⟩:=h4 y hy h0
  exact⟨z,hz,by rw[zf2 _ _ (fun k=>hxl (by rw[←k];exact hz))];exact e⟩
 ·rcases List.mem_append.1 hy with k|k
  ·rw[zf2 _ _ (fun e=>hxl (by rw[←e];exact k))];exact hpy y k
  ·rw[List.mem_singleton]at k
   subst k;rw[zf1];exact hpx
theorem zya(h:CPT w0 q u0 l par own nm x (clsN (16+b.length)) W)(hp:p=0∨p∈l)(hb:∀k∈b,k<256)(hk:zuz b=true)(hno:∀y∈l,nm y≠b.map lowB::nm p)(ho:p≠0→own p≤4000000000)(hf:l.length≤224):Calls prog 225 #[q,x,p,.string (za0 b)] W (zR (0:Int) fun w'=>Fr q.blocks W w'∧CPM w0 q u0 l (up par x p) own (up nm x (b.map lowB::nm p)) p x w'):=by
 obtain⟨refs,B,h1,h2,h3,h4,h5⟩:=h;obtain⟨hxl,hx0,_⟩:=h1.ne
 have hpn:∀y∈l,par y=0∨par y∈l:=by
  obtain⟨S',L,v,E,B0,gi,_,_,_,r⟩:=h1;intro y hy;rw[←(r y hy).1];exact gi.up y hy
 have hno':fndP l par B p (b.map lowB)=none:=by
  unfold fndP;rw[List.find?_eq_none];intro y hy e;simp at e;exact hno y hy (by rw[h2.s y hy,e.1,e.2])
 refine(zx7 h1 hp hb hk hno' (fun h0=>by
  have:=h3 p (hp.resolve_left h0);have:=zxf par l p;have:=ho h0;omega)).mono fun e w' ⟨he,f,fr1,g⟩=>⟨he,f,zx9 g hxl hx0 hp hpn h2 h3 h4 h5⟩
theorem zyb(h:CPM w0 q u0 l par own nm p x W):Calls prog 287 #[q,x] W (zR (0:Int) fun w'=>Fr q.blocks W w'∧∃fr,CP w0 q u0 (l++ [x]) par (up own x 1) nm fr w'):=by
 obtain⟨refs,B,fr,h1,hx,hpx,h2,h3,h4,h5,h6⟩:=h;have hxm:x∈l++ [x] :=List.mem_append_right _ (List.mem_singleton.2 rfl);have hox:=h5 x hx
 have hbx:bel par (l++ [x]) x=0:=by
  by_cases h0:bel par (l++ [x]) x=0
  ·exact h0
  ·obtain⟨z,hz,e⟩:=bel_pos.1 h0
   exact absurd e (h6 z hz)
 have hr:=h3 x hxm;refine(zxo h1 hxm (by omega)).mono fun e w' ⟨he,g1,g2⟩=>⟨he,g2,fr,_,B,g1,h2,fun y hy=> ?_,fun y hy h0=> ?_,fun y hy=> ?_⟩
 ·by_cases e:y=x
  ·subst e;rw[zf1,zf1];omega
  ·rw[zf2 _ _ e,zf2 _ _ e];exact h3 y hy
 ·by_cases e:y=x
  ·subst e;rw[zf1]at h0;omega
  ·rw[zf2 _ _ e]at h0
   rcases List.mem_append.1 hy with k|k
   ·obtain⟨z,hz,e⟩:=h4 y k h0
    exact⟨z,List.mem_append_left _ hz,e⟩
   ·exact absurd (List.mem_singleton.1 k) e
 ·rw[zf2 _ _ (fun e=>hy (by rw[e];exact hxm))]
  exact h5 y (fun k=>hy (List.mem_append_left _ k))
theorem zyc(h:CP w0 q u0 l par own nm fr W)(hx:x∈l)(k:Nat)(ho:own x=k+1)(hz:∃z∈l,par z=x):Calls prog 137 #[q,x] W (zR (.tuple #[(0:Int),(0:Int)]) fun w'=>Fr q.blocks W w'∧∃fr1,CP w0 q u0 l par (up own x k) nm fr1 w'):=by
 refine(zx2 h hx k ho).mono fun e w' ⟨n,l1,fr1,g1,g2,g3,g4,g5⟩=> ?_
 have hl:l1=l:=g4.uniq (.refl l) g3.firm (fun y hy h0=>by
  by_cases e:y=x
  ·rw[e];exact hz
  ·rw[zf2 _ _ e]at h0
   exact h.firm y hy h0) h.nd
 subst hl;have hn:n=0:=by omega
 subst hn;exact⟨g1,g2,fr1,g3⟩
end
theorem zyd{w w0:World}{g:Nat}{t:TypeId}{cs:Array Value}{S:List Nat}{v0 v1 v2 v3 v4 v5 v6 v7 v8 v9 v10 v11 v12 v13:Value}(C:World→Prop)(h:Blk w g t cs)(hs:cs.size=14)(hf:Fr S w0 w)(hg:g∈S∨w0.heap.size≤g)
  (K:∀w9,Blk w9 g t #[v0,v1,v2,v3,v4,v5,v6,v7,v8,v9,v10,v11,v12,v13]→Fr S w0 w9→C w9):C ((((((((((((((w.setCell ⟨g,0,none⟩ v0).setCell ⟨g,1,none⟩ v1).setCell ⟨g,2,none⟩ v2).setCell ⟨g,3,none⟩ v3).setCell ⟨g,4,none⟩ v4).setCell ⟨g,5,none⟩ v5).setCell ⟨g,6,none⟩ v6).setCell ⟨g,7,none⟩ v7).setCell ⟨g,8,none⟩ v8).setCell ⟨g,9,none⟩ v9).setCell ⟨g,10,none⟩ v10).setCell ⟨g,11,none⟩ v11).setCell ⟨g,12,none⟩ v12).setCell ⟨g,13,none⟩ v13):=by
 have:=K (w.setCells g 0 [v0,v1,v2,v3,v4,v5,v6,v7,v8,v9,v10,v11,v12,v13]) (by
  have:=h.setCells [v0,v1,v2,v3,v4,v5,v6,v7,v8,v9,v10,v11,v12,v13] 0;rw[zai _ _ (by rw[hs];rfl)]at this;exact this) (hf.setCells hg _ _)
 exact this
def atV(X:HB)(m:Nat)(x:Int):Array Value:= #[.int .i64 X.tag,.int .i64 X.cls,.bool X.used,.int .i64 X.label,.int .u32 X.name,.int .u32 X.next,.int .u32 X.prev,.int .u32 X.refs,.int .u64 X.expiry,.int .u16 X.typ,.int .i64 X.size,.int .u32 X.hash,.pointer (some ⟨m,0,none⟩),.int .i64 x]
abbrev atZ:Array Value:= #[.int .i64 0,.int .i64 0,.bool false,.int .i64 0,.int .u32 0,.int .u32 0,.int .u32 0,.int .u32 0,.int .u64 0,.int .u16 0,.int .i64 0,.int .u32 0,.pointer none,.int .i64 0]
theorem zye{P:Program}{fn:Func}{p s:Tmp}{ty:TypeId}(h:fn.results= #[.cell p ty,.tmp s])(tmps:Array Value)(w:World)(g:Nat)(t:TypeId)(cs:Array Value)(d:TypeDesc)
  (hp:tmps.getD p undef= .pointer (some ⟨g,0,none⟩)) (hg:Blk w g t cs)
  (hu:P.underlying ty=some d) (hd:(match d with| .struct _| .array _ _=>true|_=>false)=true) (hi:(P.info? ty).map (·.size)=some cs.size):
  (results fn tmps).run P w= .ok (.tuple #[.agg cs,tmps.getD s undef]) w:=by
 have hp':tmps[p]?.getD undef= .pointer (some ⟨g,0,none⟩):=by simpa using hp
 simp[results,h,hp',asAddr,run_loadVar_row w g t ty cs (0,0) d hg hu hd hi]
theorem IsH.ownB{w w2 w9:World}{q:MH}{t t2:TM}(h0:IsH w q t)(h:IsH w2 q t2)(hf:Fr [w.heap.size] w2 w9):IsH w9 q t2:=by
 have h2:=h0.tabs.size;exact⟨h.m.fr hf (fun k hk hm=>by simp at hm;have:=h0.m.lt k hk;omega) (fun k hk hm=>by simp at hm;omega),h.tabs.fr hf (by simp;omega),h.hi⟩
section
variable{w:World}{q:MH}{t:TM}{x:Nat}{X:HB}
theorem zyf(h:IsH w q t)(at_:Int)(X:HB)(c:Nat)(hg:∀W,IsH W q t→Calls prog 138 #[q,at_] W (zR (.tuple #[X.val,c]) fun w'=>IsH w' q t∧Fr q.blocks W w'))(hc:c=0→X.tag=1):Calls prog 61 #[q,at_] w (zR (.tuple #[.agg (if c=0 then atV X q.m at_ else atZ),.int .i64 (if c=0 then 0 else 30)]) fun w'=>IsH w' q t∧Fr q.blocks w w'):=by
 have HG:=hid (fun W (hW:IsH W q t)=>(show Calls prog 138 #[q,at_] W (zR (.tuple #[.agg #[X.tag,X.cls,X.used,X.label,.int .u32 X.name,.int .u32 X.next,.int .u32 X.prev,.int .u32 X.refs,.int .u64 X.expiry,.int .u16 X.typ,X.size,.int .u32 X.hash],c]) fun w'=>IsH w' q t∧Fr q.blocks W w')from hg W hW));have HC:=hid (fun W (hW:IsT W q t)=>zgy hW);have hE:=zpn t.a t.s h.m.ok.cfg.a1;unfold cfgV at HC;have A0:=Blk.new w 124 atZ;have H0:=h.alloc;have F0:=((Fr.refl [] w).alloc (.cells atZ 124)).nil (S:=q.blocks);have hlt:=h.m.lt;have HNA:=hid (show w.heap.size∉q.blocks from fun hm=>by have:=hlt _ hm;omega);clear hg hlt;generalize t.a=a at*;generalize t.s=s at*;unfold atV;obtain⟨tag,cls,used,label,nm,next,prev,refs,expiry,ty,size,hash⟩:=X;simp only at HG hc⊢;by_cases h0:c=0
 ·subst h0
  rw[if_pos rfl,if_pos rfl];obtain rfl:tag=1:=hc rfl;go_in;go_wp2_with fail;go_call HC.out _ (H0 _).m as e w1 ⟨rfl,f1⟩;have H1:=(H0 _).fr0 f1;have F1:=F0.trans f1.nil;have A1:=A0.fr f1 (by simp);clear f1 HC H0 F0 A0;go_wp2_with fail;go_call HG.out _ H1 as e w2 ⟨rfl,k2,f2⟩;have H2:=k2.alloc;have F2:=(F1.trans f2).alloc;have A2:=(A1.fr f2 HNA.out).alloc (.cells #[(1:Int),cls,used,label,.int .u32 nm,.int .u32 next,.int .u32 prev,.int .u32 refs,.int .u64 expiry,.int .u16 ty,size,.int .u32 hash] 122);clear k2 f2 HG H1 F1 A1;have dd:=A2.cell;have zz:=A2.frozen;go_wp2_with fail;refine zyd (fun w9=>bodyPost _ _ _ _ _ w9) A2 rfl (Fr.refl [w.heap.size] _) (.inl (by simp)) ?_;intro w9 hb9 hf9;refine bodyPost_ret (zye (p:=4) (s:=5) (ty:=124) rfl _ _ w.heap.size 124 _ _ rfl hb9 underlying124 rfl (by kernel_rfl)) rfl ?_;exact⟨rfl,h.ownB (H2 _) hf9,(F2 _).step hf9 (fun k hk=> .inr (by simp at hk;omega))⟩
 ·rw[if_neg h0,if_neg h0]
  have hc1:((c:Int) !=0)=true:=by simp;omega
  have hc2:(c !=0)=true:=by simp;omega
  clear hc h0;go_in;go_wp2_with fail;go_call HC.out _ (H0 _).m as e w1 ⟨rfl,f1⟩;have H1:=(H0 _).fr0 f1;have F1:=F0.trans f1.nil;have A1:=A0.fr f1 (by simp);clear f1 HC H0 F0 A0;go_wp2_with fail;go_call HG.out _ H1 as e w2 ⟨rfl,k2,f2⟩;have HO:=hid (fun o=>And.intro (k2.alloc o) (And.intro ((F1.trans f2).alloc o) ((A1.fr f2 HNA.out).alloc o)));have dd:=(HO.out (.cells #[tag,cls,used,label,.int .u32 nm,.int .u32 next,.int .u32 prev,.int .u32 refs,.int .u64 expiry,.int .u16 ty,size,.int .u32 hash] 122)).2.2.cell;have zz:=(HO.out (.cells #[tag,cls,used,label,.int .u32 nm,.int .u32 next,.int .u32 prev,.int .u32 refs,.int .u64 expiry,.int .u16 ty,size,.int .u32 hash] 122)).2.2.frozen;clear k2 f2 HG H1 F1 A1;go_wp2_with fail;refine zyd (fun w9=>bodyPost _ _ _ _ _ w9) (HO.out _).2.2 rfl (Fr.refl [w.heap.size] _) (.inl (by simp)) ?_;intro w9 hb9 hf9;refine bodyPost_ret (zye (p:=4) (s:=5) (ty:=124) rfl _ _ w.heap.size 124 _ _ rfl hb9 underlying124 rfl (by kernel_rfl)) rfl ?_;exact⟨rfl,h.ownB (HO.out _).1 hf9,(HO.out _).2.1.step hf9 (fun k hk=> .inr (by simp at hk;omega))⟩
def EGet(q:MH)(t:TM)(x:Int)(X:HB)(z:Option Addr)(pl:Int)(c:Nat):Prop:= ∀W,IsH W q t→Calls prog 61 #[q,x] W (zR (.tuple #[.agg #[X.tag,X.cls,X.used,X.label,.int .u32 X.name,.int .u32 X.next,.int .u32 X.prev,.int .u32 X.refs,.int .u64 X.expiry,.int .u16 X.typ,X.size,.int .u32 X.hash,.pointer z,pl],c]) fun w'=>IsH w' q t∧Fr q.blocks W w')
theorem zyg(hx:BlkE t x X)(ht:X.tag=1):EGet q t x X (some ⟨q.m,0,none⟩) x 0:=fun W hW=>
 zyf hW x X 0 (fun V hV=>hget V q t hV x X.tag.toNat 5 X hx.h hx.ok hx.r hx.tagN hx.lies (.inl rfl)) (fun _=>ht)
theorem zyh(x:Int)(h5:zck t.kinds x 4≠5)(h6:zck t.kinds x 4≠6):EGet q t x zHB none 0 30:=fun W hW=>
 zyf hW x zHB 30 (fun V hV=>zs7 hV x h5 h6) (fun e=>by cases e)
theorem zyi{x:Int}{z:Option Addr}{pl:Int}{c:Nat}(h:IsH w q t)(hg:EGet q t x X z pl c):Calls prog 36 #[q,x] w (zR X.used fun w'=>IsH w' q t∧Fr q.blocks w w'):=by
 have HG:=hg w h;clear hg h;obtain⟨tag,cls,used,label,nm,next,prev,refs,expiry,ty,size,hash⟩:=X;simp only at HG⊢;go_in;go_wp2_with fail;go_call HG as e w1 ⟨rfl,k1,f1⟩;have H1:=fun o=>And.intro (k1.alloc o) (f1.alloc o);clear k1 f1;go_wp2;go_ret;exact⟨rfl,(H1 _).1,(H1 _).2⟩
theorem eend{x:Int}{z:Option Addr}{pl:Int}{c:Nat}(h:IsH w q t)(hg:EGet q t x X z pl c):Calls prog 37 #[q,x] w (zR (.int .u64 X.expiry) fun w'=>IsH w' q t∧Fr q.blocks w w'):=by
 have HG:=hg w h;clear hg h;obtain⟨tag,cls,used,label,nm,next,prev,refs,expiry,ty,size,hash⟩:=X;simp only at HG⊢;go_in;go_wp2_with fail;go_call HG as e w1 ⟨rfl,k1,f1⟩;have H1:=fun o=>And.intro (k1.alloc o) (f1.alloc o);clear k1 f1;go_wp2;go_ret;exact⟨rfl,(H1 _).1,(H1 _).2⟩
theorem zyj{x:Int}{z:Option Addr}{pl:Int}{c:Nat}(h:IsH w q t)(hg:EGet q t x X z pl c)(hn:X.name<4294967296):Calls prog 30 #[q,x] w (zR X.name fun w'=>IsH w' q t∧Fr q.blocks w w'):=by
 have HG:=hg w h;clear hg h;obtain⟨tag,cls,used,label,nm,next,prev,refs,expiry,ty,size,hash⟩:=X;simp only at HG hn⊢;have wn:IntKind.i64.wrap (nm:Int)=(nm:Int):=i6 _;go_in;go_wp2_with fail;go_call HG as e w1 ⟨rfl,k1,f1⟩;have H1:=fun o=>And.intro (k1.alloc o) (f1.alloc o);clear k1 f1;go_wp2;go_ret;exact⟨rfl,(H1 _).1,(H1 _).2⟩
end
section
variable{w:World}{q:MH}{t:TM}{x:Nat}
theorem zyk(w:World)(C:Array Value)(m x:Nat)(hx:x<1099511627776){a1 a2 a4 a11:Int}{a3:Bool}{a5 a6 a7 a8 a9 a10 a12:Nat}(hC:C= #[.int .i64 a1,.int .i64 a2,.bool a3,.int .i64 a4,.int .u32 a5,.int .u32 a6,.int .u32 a7,.int .u32 a8,.int .u64 a9,.int .u16 a10,.int .i64 a11,.int .u32 a12,.pointer (some ⟨m,0,none⟩),.int .i64 x]):Calls prog 91 #[.agg C] w (zN ((x:Int)+32:) w):=by
 subst hC;have wx:=i6 ((x:Int)+32);go_in;go_wp2;go_ret;exact⟨rfl,(Fr.refl [] w).alloc _⟩
theorem zyl(h:IsH w q t)(b:List Nat)(hb:ByOn t (x+32) b.length (fun j=>b[j]?.getD 0))(n:Nat)(hn:32+b.length≤n)(hn16:n %16=0)(hx16:x %16=0)(hxn:x+n≤zdw t.a t.s)(hk:KdOn t x n 5){a1 a2 a4:Int}{a3:Bool}{a5 a6 a7 a8 a9 a10 a12:Nat}:Calls prog 64 #[.agg #[a1,a2,a3,a4,.int .u32 a5,.int .u32 a6,.int .u32 a7,.int .u32 a8,.int .u64 a9,.int .u16 a10,b.length,.int .u32 a12,q,x]] w fun e w'=>∃g cap,e= .returned (.slice (some ⟨g,0,none⟩) b.length cap)∧w.heap.size≤g∧RowB w' g cap b∧IsH w' q t∧Fr q.blocks w w':=by
 have hle:=zdx t.a t.s h.m.ok.cfg;have HR:=hid (fun W (hW:IsH W q t)=>zwb hW ((x:Int)+32) (x+32) (by omega) b hb ((b.length+3)/4*4) (by omega) (by omega) (by omega) (by omega) (fun g g1 g2=>hk g (by omega) (by omega)) b.length rfl);have HD:=hid (fun W=>zyk (a1:=a1) (a2:=a2) (a3:=a3) (a4:=a4) (a5:=a5) (a6:=a6) (a7:=a7) (a8:=a8) (a9:=a9) (a10:=a10) (a11:=b.length) (a12:=a12) W _ q.m x (by omega) rfl);generalize b.length=m at*;have H0:=h.alloc;have F0:=(Fr.refl [] w).alloc;have A0:=Blk.new w 124 #[.int .i64 a1,.int .i64 a2,.bool a3,.int .i64 a4,.int .u32 a5,.int .u32 a6,.int .u32 a7,.int .u32 a8,.int .u64 a9,.int .u16 a10,.int .i64 m,.int .u32 a12,.pointer (some ⟨q.m,0,none⟩),.int .i64 x];have hlt:=h.m.lt;have HNA:=hid (show w.heap.size∉q.blocks from fun hm=>by have:=hlt _ hm;omega);clear h hb hn hk hxn hle hlt;go_in;go_wp2_with fail;have hY:=A0.drew.cell;refine wp_region_held_drew (S:=fun W=>∀i,W.cell? ⟨w.heap.size,i,none⟩=(#[.int .i64 a1,.int .i64 a2,.bool a3,.int .i64 a4,.int .u32 a5,.int .u32 a6,.int .u32 a7,.int .u32 a8,.int .u64 a9,.int .u16 a10,.int .i64 m,.int .u32 a12,.pointer (some ⟨q.m,0,none⟩),.int .i64 x])[i]?) (by kernel_rfl) (hY) (fun yH=> ?_);refine tkZ 0 ?_;refine tkZ 1 ?_;refine tkZ 2 ?_;refine tkZ 4 ?_;refine tkZ 5 ?_;refine tkZ 6 ?_;refine tkC 3 fun K hK=> ?_;go_simp;go_call HD.out _ as e w3 ⟨rfl,f3⟩;have H3:=(H0 _).drew.fr0 f3;have F3:=hid ((F0 _).drew.trans f3);have A3:=A0.drew.fr f3 (by simp);have hY:=A3.cell;clear f3;go_wp2_with fail;refine hK.out _ _ _ hY fun yH=> ?_;clear hK K;refine tkC 7 fun K hK=> ?_;go_simp;go_call HR.out _ H3 as e w7 ⟨g,cap,rfl,hg,hr,k7,f7⟩;have R7:=hid (And.intro (show w.heap.size≤g from Nat.le_trans F3.size hg) (And.intro hr (And.intro k7 (F3.nil.trans f7))));have hY:=(A3.fr f7 HNA.out).cell;clear hg hr k7 f7;go_wp2_with fail;refine hK.out _ _ _ hY fun yH=> ?_;clear hK K;refine tkZ 8 ?_;refine wpAnyH_done (by kernel_rfl) ?_ _;go_wp2;go_ret;exact⟨g,cap,rfl,R7.out⟩
end
def keyH(h typ:Nat):Nat:=mixS h [typ %256,typ/256]
theorem zym{h:Nat}(typ:Nat):keyH h typ<4294967296:=by
 unfold keyH mixS;rw[List.foldl_cons,List.foldl_cons,List.foldl_nil];exact zvl _ _
theorem xkey(w:World)(h typ:Nat)(ht:typ<65536):Calls prog 147 #[.int .u32 h,.int .u16 typ] w (zN (.int .u32 (keyH h typ)) w):=by
 have HT:=hid (fun W g (hb:Blk W g 5 #[.int .u8 (typ %256:Nat),.int .u8 (typ/256:Nat)])=>(show Calls prog 254 #[.int .u32 h,.slice (some ⟨g,0,none⟩) 2 2] W (zE (.int .u32 (keyH h typ)) W)from by
  have hby:Byt W (some ⟨g,0,none⟩) [typ %256,typ/256] :=⟨fun i hi=>by
   have:i=0∨i=1:=by simp at hi;omega
   rcases this with rfl|rfl
   ·exact⟨g,0,rfl,hb.cell 0,hb.lt⟩
   ·exact⟨g,0,rfl,hb.cell 1,hb.lt⟩,fun b hm=>by simp at hm;omega,by simp⟩
  have ht:=(show Calls prog 308 #[.int .u32 h,.slice (some ⟨g,0,none⟩) 2 2] W (zE (.int .u32 (keyH h typ)) W)from zvq W h _ 2 [typ %256,typ/256] hby (by simp));generalize keyH h typ=R at*;clear hby;go_in;go_wp2_with fail;go_call ht as e w2 ⟨rfl,rfl⟩;go_wp2;go_ret;exact⟨rfl,rfl⟩))
 obtain⟨a,ha⟩:∃a:Nat,typ %256=a:=⟨_,rfl⟩;obtain⟨b,hb⟩:∃b:Nat,typ/256=b:=⟨_,rfl⟩;have e1:IntKind.u8.wrap (typ:Int)=(a:Int):=by show(typ:Int) %256=_;omega
 have e3:IntKind.u8.wrap (b:Int)=(b:Int):=by show(b:Int) %256=_;omega
 rw[ha,hb]at HT;have HX:=hid (And.intro ha hb);clear ha hb;generalize keyH h typ=R at*;go_in;go_wp2_with fail;have hE:((typ:Int)/256)=(b:Int):=by have:=HX.2;omega
 go_call HT.out _ w.heap.size (by rw[←hE];exact Blk.new _ _ _) as e w2 ⟨rfl,he⟩;rw[he];clear he hE HT;go_wp2;go_ret;exact⟨rfl,(Fr.refl [] w).alloc _⟩
section
variable{w0 W:World}{q:MH}{S:SS}{x y n:Nat}{u:TM}{L:Nat→Prop}{l R:List Nat}{E:Nat→HB}{B:Nat→List Nat}
theorem NI.finds(g:NI w0 q S L l u E B W)(P Q:Nat→Bool)(h:Nat)(hP:∀z,L z→(P z=true↔z∈R∧Q z=true))(hL:∀z∈R,L z)(hh:∀z∈R,Q z=true→(E z).hash=h)(one:∀y∈R,∀z∈R,Q y=true→Q z=true→y=z):(fndT u.sl (hmE u E) 224 (h %224) P).map u.sl=R.find? Q:=by
 cases hf:fndT u.sl (hmE u E) 224 (h %224) P with
 |some i=>
  obtain⟨h1,h2,h3⟩:=zup _ (by decide) 224 0 i hf;obtain⟨k1,k2⟩:=(hP _ ((g.inx _ h3).1 ⟨i,h1,rfl⟩)).1 h2;cases hc:R.find? Q with
  |none=>exact absurd k2 (by simpa using List.find?_eq_none.1 hc _ k1)
  |some z=>exact congrArg some (one _ k1 _ (List.mem_of_find?_eq_some hc) k2 (List.find?_some hc))
 |none=>
  symm;show R.find? Q=none;rw[List.find?_eq_none];intro z hz hp;have h0:=(g.wb.ne0 (hL z hz)).1;obtain⟨i,hi,e⟩:=(g.inx z h0).2 (hL z hz);obtain⟨j,_,e2,_⟩:=g.wb.rh.r.finds P hi (by rw[e];exact h0) (by rw[e];exact(hP z (hL z hz)).2 ⟨hz,hp⟩);have hm:hmE u E (u.sl i)=h %224:=by rw[e];unfold hmE;rw[g.wb.s,hh z hz hp]
  rw[hm,hf]at e2;cases e2
theorem zyn(g:NI w0 q S L l u E B W)(hx:x=0∨x∈l):Calls prog 148 #[q,x] W (zR (.int .u32 (hsh E x)) fun w'=>IsH w' q u∧Fr q.blocks W w'):=by
 unfold hsh;rcases Nat.eq_zero_or_pos x with e|h1
 ·rw[if_pos e,e]
  exact(zv0 W _).mono fun e w' ⟨h1,h2⟩=>⟨h1,by rw[h2];exact g.wb.h,by rw[h2];exact Fr.refl _ _⟩
 ·have hm:=(g.mem x).1 (hx.resolve_left (by omega))
  rw[if_neg (by omega)];exact zvz g.wb.h (g.wb.ix.e x hm.1) (by omega) hm.2
theorem zyo(g:NI w0 q S L l u E B W)(hx:x=0∨x∈l)(typ:Nat)(ht:typ<65536):Calls prog 68 #[q,x,.int .u16 typ] W (zR (.int .u32 (keyH (hsh E x) typ)) fun w'=>IsH w' q u∧Fr q.blocks W w'):=by
 have HH:=zyn g hx;have HK:=hid (fun V=>xkey V (hsh E x) typ ht);generalize keyH (hsh E x) typ=k at*;generalize hsh E x=h at*;clear g hx;go_in;go_wp2_with fail;go_call HH as e w1 ⟨rfl,k1,f1⟩;have K1:=hid (And.intro k1 f1);clear k1 f1 HH;go_wp2_with fail;go_call HK.out _ as e w2 ⟨rfl,f2⟩;have K2:=hid (And.intro (K1.1.fr0 f2) (K1.2.trans f2.nil));clear f2 K1;go_wp2;go_ret;exact⟨rfl,K2.out⟩
theorem zyp(g:NI w0 q S L l u E B W)(hx:x=0∨x∈l):Calls prog 66 #[q,x] W (zR true fun w'=>IsH w' q u∧Fr q.blocks W w'):=by
 rcases Nat.eq_zero_or_pos x with e|h1
 ·subst e
  have hc:=zgy g.wb.h.m;have H0:=hid g.wb.h;have hE:=zpn u.a u.s g.wb.h.m.ok.cfg.a1;unfold cfgV at hc;generalize u.a=a at*;generalize u.s=s at*;clear g hx;go_in;go_wp2_with fail;go_call hc as e w1 ⟨rfl,f1⟩;have K1:=hid (And.intro (H0.fr0 f1) (f1.nil (S:=q.blocks)));clear f1 hc;go_wp2;go_ret;exact⟨rfl,K1.out⟩
 ·have hx':=hx.resolve_left (by omega)
  have hm:=(g.mem x).1 hx';have ct:=g.wb.ct x hm.1;obtain⟨c,hc,_,_,hlv,hfit⟩:=ct.n;obtain⟨b1,b2,b3,b4,b5,b6,b7⟩:=g.wb.at_ hlv;have hsz:sz (E x).tag.toNat=16:=by rw[hm.2];rfl
  have hon:=ct.on;rw[hsz]at hon hfit;have l2:=ct.l2 hm.2;have HL:=zwc g.wb.h (g.wb.ix.e x hm.1) hm.2 (B x) l2.1 l2.2.2 ct.lt hon (csz c) hfit b3 b2 b6 b7;have b0:((x:Int)==0)=false:=by rw[beq_eq_false_iff_ne];omega
  have b0':(x==0)=false:=by rw[beq_eq_false_iff_ne];omega
  generalize za0 (B x)=sb at*;clear g hx hx' hm ct hc hlv hfit b1 b2 b3 b4 b5 b6 b7 hsz hon l2 h1;go_in;go_wp2_with fail;go_call HL as e w1 ⟨rfl,k1,f1⟩;have K1:=hid (And.intro k1 f1);clear k1 f1 HL;go_wp2;go_ret;exact⟨rfl,K1.out⟩
def zyq(E:Nat→HB)(name typ:Nat)(z:Nat):Bool:=(E z).name==name&&(E z).typ==typ
theorem zyr(g:NI w0 q S L l u E B W)(hA:∀z,L z→z∈l∨z∈R)(hR:∀z∈R,L z∧z∉l)(hx:x=0∨x∈l)(typ:Nat)(ht:typ<65536)(hh:∀y∈R,(E y).hash=keyH (hsh E (E y).name) (E y).typ)(one:∀y∈R,∀z∈R,(E y).name=(E z).name→(E y).typ=(E z).typ→y=z):Calls prog 19 #[q,x,.int .u16 typ] W (zR (ansN (R.find? (zyq E x typ))) fun w'=>IsH w' q u∧Fr q.blocks W w'):=by
 have hx2:x<1048576:=by
  rcases hx with e|e
  ·omega
  ·exact(g.lt e).2
 have HN:=zyp g hx;have HH:=hid (fun V (hV:IsH V q u) (hf:Fr q.blocks W V)=>zyo (g.same hV hf) hx typ ht)
 have HE:=hid (fun V (hV:IsH V q u)=>(show Calls prog 67 #[q,.int .u32 x,.int .u16 typ,.int .u32 (keyH (hsh E x) typ)] V (zR (ansN (R.find? (zyq E x typ))) fun w'=>IsH w' q u∧Fr q.blocks V w')from by
  have tg:∀z,L z→((E z).tag=1↔z∈R):=fun z hz=>by
   constructor
   ·intro h1
    exact(hA z hz).resolve_left (fun k=>by have:=((g.mem z).1 k).2;omega)
   ·intro hr
    rcases(g.wb.ix.e z hz).tg with k|k
    ·exact k
    ·exact absurd ((g.mem z).2 ⟨hz,k⟩) (hR z hr).2
  have hk:∀z∈R,zyq E x typ z=true→(E z).hash=keyH (hsh E x) typ:=fun z hz hp=>by
   unfold zyq at hp;simp only[Bool.and_eq_true,beq_iff_eq]at hp;rw[hh z hz,hp.1,hp.2]
  have hf:=g.finds (R:=R) (isEn E x typ (keyH (hsh E x) typ)) (zyq E x typ) (keyH (hsh E x) typ) (fun z hz=>by
   unfold isEn;constructor
   ·intro hp
    simp only[Bool.and_eq_true,beq_iff_eq]at hp;exact⟨(tg z hz).1 hp.1.1.1,by unfold zyq;simp[hp.1.1.2,hp.1.2]⟩
   ·rintro⟨h1,h2⟩
    have h3:=hk z h1 h2;unfold zyq at h2;simp only[Bool.and_eq_true,beq_iff_eq]at h2;simp[(tg z hz).2 h1,h2.1,h2.2,h3]) (fun z hz=>(hR z hz).1) hk (fun y hy z hz h1 h2=>by
   unfold zyq at h1 h2;simp only[Bool.and_eq_true,beq_iff_eq]at h1 h2;exact one y hy z hz (h1.1.trans h2.1.symm) (h1.2.trans h2.2.symm))
  have:=zum hV g.wb.ix x typ (keyH (hsh E x) typ) (by omega) ht (zym _);rw[g.wb.s]at this;rw[←hf];refine this.mono fun e w' ⟨he,k⟩=>⟨?_,k⟩;rw[he];cases fndT u.sl (hmE u E) 224 (keyH (hsh E x) typ %224) (isEn E x typ (keyH (hsh E x) typ))<;>rfl))
 have wu:IntKind.u32.wrap (x:Int)=(x:Int):=IntWalk.u32_in _ (by omega);generalize keyH (hsh E x) typ=k at*;obtain⟨_,hV⟩:∃V,ansN (R.find? (zyq E x typ))=V:=⟨_,rfl⟩
 obtain⟨va,vb,hab⟩:∃va vb,ansN (R.find? (zyq E x typ))= .tuple #[va,vb] :=by
  cases R.find? (zyq E x typ)with
  |some z=>exact⟨_,_,rfl⟩
  |none=>exact⟨_,_,rfl⟩
 rw[hab]at HE⊢;clear g hA hR hx hh one hx2 hV hab;go_in;go_wp2_with fail;go_call HN as e w1 ⟨rfl,k1,f1⟩;have K1:=hid (And.intro k1 f1);clear k1 f1 HN;go_wp2_with fail;go_call HH.out _ K1.out.1 K1.out.2 as e w2 ⟨rfl,k2,f2⟩;have K2:=hid (And.intro k2 (K1.2.trans f2));clear k2 f2 HH;go_wp2_with fail;go_call HE.out _ K2.out.1 as e w3 ⟨rfl,k3,f3⟩;have K3:=hid (And.intro k3 (K2.2.trans f3));clear k3 f3 HE;go_wp2;go_ret2;exact⟨rfl,K3.out⟩
end
section
variable{w0 W:World}{q:MH}{S:SS}{x c:Nat}{u:TM}{L:Nat→Prop}{E:Nat→HB}{B:Nat→List Nat}{b:List Nat}
theorem zys(g:WB w0 q S L u E B W)(hf:Fx u S L x c):Calls prog 111 #[q,x,c] W (zR true fun w'=>IsH w' q u∧Fr q.blocks W w'):=by
 obtain⟨b1,b2,b3,b4,b5,b6,b7⟩:=g.at_ hf.lv;obtain⟨i,hi,hxi,hc⟩:=g.lv7 hf.lv;have hb:=zqa g.sl g.h.m.ok hi (.inr hxi)
 have hcls:S.cls i=c:=by
  have hs1:=g.sl.each i hi;have h9:=hs1.c9;have hcl:=hf.cl;have key:∀a,a≤9→∀b,b≤9→csz a=csz b→a=b:=by decide
  exact key _ h9 _ hcl.2 hc.symm
 have HBl:=(show Calls prog 129 #[q,x] W (zR (.tuple #[i,x,true]) fun w'=>IsH w' q u∧Fr q.blocks W w')from by
  have:=zpv g.h g.sl (x:Int);rw[hb]at this;exact this)
 have hk5:zck u.kinds x 4=5:=by
  rw[zws g.h.m.ok (by omega) (by omega)];exact b7 _ (Nat.le_refl _) (by omega)
 have HK:=hid (fun V (hV:IsH V q u)=>(show Calls prog 34 #[q,x,(4:Int)] V (zE (5:Int) V)from by
  have:=zlr V q u.ms hV.m.m x 4;rw[show zck u.ms.ks x 4=5 from hk5]at this;exact this))
 have HG:=hid (fun V (hV:IsH V q u)=>(show Calls prog 104 #[q,i] V (zR (.tuple #[.agg #[c,.int .i64 (u.hd i 1),.int .u32 (u.hd i 2),.int .i64 (u.hd i 3),.int .i64 (u.hd i 4)],(0:Int)]) fun w'=>IsT w' q u∧Fr q.blocks V w')from by
  have:=zjt hV.m i hi;rw[(g.sl.each i hi).h0,hcls]at this;exact this))
 have hat:At u x 4 5 0:=⟨by decide,by omega,by decide,by omega,by decide,fun gg g1 g2=>b7 gg (by omega) (by omega),fun j hj=>by rw[hf.z j (by omega),nb_0]⟩;have HL:=hid (fun V (hV:IsH V q u)=>(show Calls prog 109 #[q,x,(4:Int),(5:Int)] V (zR (.int .u64 0) fun w'=>IsT w' q u∧Fr q.blocks V w')from zgu hV.m hat));generalize u.hd i 1=h1 at*;generalize u.hd i 2=h2 at*;generalize u.hd i 3=h3 at*;generalize u.hd i 4=h4 at*;clear hat hk5 hb hcls hxi hc b1 b2 b3 b4 b5 b6 b7 hf g;go_in;go_wp2_with fail;go_call HBl as e w1 ⟨rfl,k1,f1⟩;clear HBl;go_wp2_with fail;go_call HK.out _ k1 as e w2 ⟨rfl,rfl⟩;go_wp2_with fail;go_call HG.out _ k1 as e w3 ⟨rfl,k3,f3⟩;have K3:=(k1.step k3 f3).alloc;have F3:=(f1.trans f3).alloc;clear k3 f3;go_wp2_with fail;go_call HL.out _ (K3 _) as e w4 ⟨rfl,k4,f4⟩;have K4:=(K3 _).step k4 f4;have F4:=(F3 _).trans f4;clear k4 f4;go_wp2;go_ret;exact⟨rfl,K4,F4⟩
end
theorem zyt(E:Nat→HB)(a c y:Nat):cln (nxE E a c y)=cln (E y):=by
 unfold nxE;by_cases h:y=a
 ·subst h;rw[zf1];rfl
 ·rw[zf2 _ _ h]
theorem zyu(E:Nat→HB)(a c y:Nat):cln (pvE E a c y)=cln (E y):=by
 unfold pvE;by_cases h:y=a
 ·subst h;rw[zf1];rfl
 ·rw[zf2 _ _ h]
theorem zyv(E:Nat→HB)(a c y:Nat):cln (jnE E a c y)=cln (E y):=by
 unfold jnE;rw[zyu,zyt]
theorem zyw(E:Nat→HB){a c y:Nat}(h1:y≠a)(h2:y≠c):jnE E a c y=E y:=by
 unfold jnE pvE nxE;rw[zf2 _ _ h2,zf2 _ _ h1]
theorem zyx(E:Nat→HB)(a y:Nat):cln (alE E a y)=cln (E y):=by
 unfold alE;rw[zyu,zyt]
theorem zyy(E:Nat→HB)(R:List Nat)(x y:Nat):cln (insH E R x y)=cln (E y):=by
 unfold insH;split
 ·exact zyv _ _ _ _
 ·rw[zyv,zyv]
theorem zyz{X Y:HB}(h:cln X=cln Y):X.tag=Y.tag∧X.cls=Y.cls∧X.used=Y.used∧X.label=Y.label∧X.name=Y.name∧X.refs=Y.refs∧X.expiry=Y.expiry∧X.typ=Y.typ∧X.size=Y.size∧X.hash=Y.hash:=
 have t1:(cln X).tag=(cln Y).tag∧(cln X).cls=(cln Y).cls∧(cln X).used=(cln Y).used∧(cln X).label=(cln Y).label∧(cln X).name=(cln Y).name∧(cln X).refs=(cln Y).refs∧(cln X).expiry=(cln Y).expiry∧(cln X).typ=(cln Y).typ∧(cln X).size=(cln Y).size∧(cln X).hash=(cln Y).hash:=by
  rw[h];exact⟨rfl,rfl,rfl,rfl,rfl,rfl,rfl,rfl,rfl,rfl⟩
 t1
section
variable{w0 W W':World}{q:MH}{S:SS}{x y n b:Nat}{u v:TM}{L Lr:Nat→Prop}{E E':Nat→HB}{B:Nat→List Nat}{R:List Nat}
theorem WB.nbr(g:WB w0 q S L u E B W)(h:IsH W' q v)(hf:Fr q.blocks W W')(n:Nbr u v Lr)(hs:SlI v S)(r:Ents v Lr E')(hL:∀y,Lr y→L y)(hE:∀y,¬Lr y→E' y=E y)(hc:∀y,cln (E' y)=cln (E y)):WB w0 q S L v E' B W':=by
 have ea:=n.a;have es:=n.s;have ehm:hmE v E'=hmE u E:=by funext y;unfold hmE;rw[es,(zyz (hc y)).2.2.2.2.2.2.2.2.2]
 have hlv:∀y,L y→∃c,Lv 7 S y (csz c)∧1≤c∧c≤9:=fun y hy=>by
  obtain⟨c,_,c1,c9,hlv,_⟩:=(g.ct y hy).n;exact⟨c,hlv,c1,c9⟩
 have ap:∀y,L y→∀c,Lv 7 S y (csz c)→∀i,y≤i→i<y+csz c→(∀z,Lr z→z=y→i<y+8∨y+16≤i)→zfz v i=zfz u i:=fun y hy c hc i h1 h2 h3=>by
  have b1:=(g.at_ hc).1;refine n.by_ i (fun z hz=> ?_) (by omega);by_cases e:z=y
  ·rw[e];exact h3 z hz e
  ·obtain⟨c',hc',k1,k9⟩:=hlv z (hL z hz)
   have:=g.apart hc' hc e;have:=zmc c' k1 k9;omega
 refine⟨h,hs,⟨fun y hy=> ?_,fun i hi=>by rw[n.sl];exact g.ix.sl i (by rw[←es];exact hi),by rw[es];exact g.ix.s0,by rw[es];exact g.ix.s1⟩,by rw[n.sl,ehm];exact g.rh,fun y hy=> ?_,ea.trans g.a,es.trans g.s,n.ft.trans g.ft,g.f.step hf (fun k hk=> .inr (g.hq k hk)),g.hq,g.fl⟩
 ·rcases Classical.em (Lr y)with hr|hr
  ·have k:=r.e y hr
   exact⟨by rw[k.tag];exact k.h,k.ok,k.r,.inl k.tag⟩
  ·rw[hE y hr]
   have hb:=g.ix.e y hy;obtain⟨c,_,_,_,hlv,hfit⟩:=(g.ct y hy).n;obtain⟨_,b2,b3,b4,b5,_,b7⟩:=zp4 hs h.m.ok (show Lv v.a S y (csz c)by rw[ea,g.a];exact hlv);have hz:=zlt (E y).tag.toNat hb.h.tg;exact hb.keep ea es (fun gg g1 g2=>b7 gg g1 (by omega)) (by omega) (fun k hk=>ap y hy c hlv _ (by omega) (by omega) (fun z hz e=>absurd (e▸hz) hr))
 ·have cy:=g.ct y hy
  obtain⟨t1,t2,_,t4,_,_,_,_,t9,_⟩:=zyz (hc y);have c2:=cy.same (X':=E' y) t1 t2 t4 t9;obtain⟨c,e1,c1,c9,hlv,hfit⟩:=c2.n;refine⟨⟨c,e1,c1,c9,hlv,hfit⟩,c2.lt,fun j hj=> ?_,c2.l2,c2.l1⟩
  rw[ap y hy c hlv _ (by omega) (by omega) (fun z hz e=> .inr (by
   have:=(r.e z hz).tag;rw[e]at this;rw[this];show y+16≤y+32+j;omega))]
  exact c2.on j hj
theorem zy0(g:WB w0 q S L u E B W)(r:RgI u Lr E R b)(hL:∀y,Lr y→L y)(hx:Lr x)(hn:x∉R):Calls prog 114 #[q,x] W (zR (0:Int) fun w'=>Fr q.blocks W w'∧WB w0 q S L (insT u E R x) (insH E R x) B w'):=by
 have hc:Calls prog 114 #[q,x] W (zR (0:Int) fun w'=>IsH w' q (insT u E R x)∧Fr q.blocks W w'):=by
  by_cases h0:R= []
  ·have:=r
   rw[h0]at this;have:=zs2 g.h this hx;unfold insT;rw[if_pos h0];exact this
  ·have:=zs1 g.h r h0 hx hn
   unfold insT;rw[if_neg h0];exact this
 have k:=r.insAny hx hn
 refine hc.mono fun e w' ⟨he,h1,h2⟩=>⟨he,h2,g.nbr h1 h2 (r.nbrIns hx) (g.sl.ins r (fun y hy=>by
  obtain⟨m,hm⟩:=g.lv (hL y hy);exact⟨m,g.lv7 hm⟩) hx) k.ents hL (fun y hy=> ?_) (fun y=> ?_)⟩
 ·unfold insH
  have hxy:y≠x:=fun e=>hy (by rw[e];exact hx);split
  ·exact zyw E hxy hxy
  ·next h0=>
   have hd:R.headD 0∈R:=by cases R with|nil=>exact absurd rfl h0|cons a l=>simp
   have hdp:=r.sub _ (r.nbr hd).2;have hyd:y≠R.headD 0:=fun e=>hy (by rw[e];exact r.sub _ hd);rw[zyw _ hxy hyd,zyw _ (fun e=>hy (by rw[e];exact hdp)) hxy]
 ·exact zyy E R x y
theorem zy1{A C:List Nat}(g:WB w0 q S L u E B W)(r:RgI u Lr E (A++x::C) b)(hL:∀y,Lr y→L y):Calls prog 84 #[q,x] W (zR (0:Int) fun w'=>Fr q.blocks W w'∧∃v E',WB w0 q S L v E' B w'∧RgI v Lr E' (A++C) (if b=x then(C++A).headD 0 else b)∧Nbr u v Lr∧(∀y,cln (E' y)=cln (E y))):=by
 have hx:x∈A++x::C:=List.mem_append.2 (.inr (List.mem_cons_self ..));have hl2:(A++x::C).length=(A++C).length+1:=by rw[List.length_append,List.length_append,List.length_cons];omega
 have hl:=r.len;have hnR:=r.nbr hx;have hnL:=r.sub _ hnR.1;have hpL:=r.sub _ hnR.2;have hk:u.rt 15=(A++C).length+1:=by rw[r.cnt,hl2]
 have hc:Calls prog 84 #[q,x] W (zR (0:Int) fun w'=>IsH w' q (u.rem x (E x).next (E x).prev (if(E x).next=x then 0 else(E x).next) (A++C).length)∧Fr q.blocks W w'):=by
  by_cases h0:(E x).next=x
  ·rw[if_pos h0]
   exact zs3 g.h r.ents (r.sub x hx) rfl rfl hnL hpL (r.ne0 hnL) h0 _ hk (by omega)
  ·rw[if_neg h0]
   exact zs4 g.h r.ents (r.sub x hx) rfl rfl hnL hpL (r.ne0 hnL) h0 _ hk (by omega)
 have n:=r.nbrRem hx (A++C).length (by omega)
 have s:=g.sl.rem r (fun y hy=>by
  obtain⟨m,hm⟩:=g.lv (hL y hy);exact⟨m,g.lv7 hm⟩) hx (A++C).length (by omega)
 have k:=r.rem;have hcl:∀y,cln (alE (jnE E (E x).prev (E x).next) x y)=cln (E y):=fun y=>by rw[zyx,zyv]
 refine hc.mono fun e w' ⟨he,h1,h2⟩=>⟨he,h2,_,_,g.nbr h1 h2 n s k.ents hL (fun y hy=> ?_) hcl,k,n,hcl⟩;have hxy:y≠x:=fun e=>hy (by rw[e];exact r.sub x hx);unfold alE pvE nxE;rw[zf2 _ _ hxy,zf2 _ _ hxy];exact zyw E (fun e=>hy (by rw[e];exact hpL)) (fun e=>hy (by rw[e];exact hnL))
end
def enX(c len name typ ex h:Nat):HB:={tag:=1,cls:=(c:Int),used:=false,label:=0,name:=name,next:=0,prev:=0,refs:=0,expiry:=ex,typ:=typ,size:=(len:Int),hash:=h}
theorem zy2{c len name typ ex h:Nat}(hc:c≤9)(hl:len≤480)(hu:name<4294967296)(ht:typ<65536)(he:ex<18446744073709551616)(hh:h<4294967296):(enX c len name typ ex h).Ok:=by
 refine⟨⟨?_,?_⟩,⟨?_,?_⟩,⟨?_,?_⟩,hu,?_,?_,?_,he,ht,⟨?_,?_⟩,hh⟩<;>simp only[enX] <;>omega
theorem zy3{c len name typ ex h:Nat}(hc:1≤c∧c≤9)(hl:len≤480):(enX c len name typ ex h).right=true:=by
 have e:zkq 1 (c:Int) 0 false=true:=by
  unfold zkq;rw[if_neg (by decide),if_pos rfl,show decide (1≤(c:Int)∧(c:Int)≤9)=true from decide_eq_true (by omega)];rfl
 unfold HB.right;rw[show zkq (enX c len name typ ex h).tag (enX c len name typ ex h).cls (enX c len name typ ex h).label (enX c len name typ ex h).used=true from e];simp[HB.lackTo,HB.lackAt,enX,HB.num,HB.nums];refine⟨by omega,⟨⟨⟨⟨⟨⟨.inr ?_,.inr ?_⟩,.inl ?_⟩,.inr ?_⟩,.inr ?_⟩,.inr ?_⟩,.inr ?_⟩,.inr ?_⟩<;>decide
def EW.add(g:EW)(x:Nat)(X:HB)(bs:List Nat):EW:=⟨g.t,g.R++ [x],insB g.R g.b x,up g.d x X,up g.p x bs⟩
section
variable{w0 W W':World}{q:MH}{S S':SS}{x y n b c:Nat}{u v:TM}{L Lr:Nat→Prop}{E E':Nat→HB}{B B':Nat→List Nat}{R l:List Nat}{X:HB}
theorem zy4(g:WB w0 q S L u E B W)(hlv:Lv 7 S x n)(hno:¬L x)(hX:BlkE u x X)(ht:X.tag=1){a:Option Addr}{c:Nat}{l:List Nat}(hb:Byt W a l)(hg:∀g o,a=some ⟨g,o,none⟩→g≠q.pw)(hl:32+l.length≤n):Calls prog 112 #[q,((x:Int)+32:),.slice a l.length c,(5:Int)] W (zR true fun w'=>Fr q.blocks W w'∧∃v,WB w0 q S L v E B w'∧BlkE v x X∧v.sl=u.sl∧v.rt=u.rt∧ByOn v (x+32) l.length (fun j=>l[j]?.getD 0)):=by
 have ok:=g.h.m.ok;obtain⟨b1,b2,b3,b4,b5,b6,b7⟩:=g.at_ hlv
 have hf:∀j,j<l.length→(fun j=>l[j]?.getD 0) j<256:=fun j hj=>by
  show l[j]?.getD 0<256;rw[List.getElem?_eq_getElem hj];exact hb.byte _ (List.getElem_mem hj)
 have ho:=(zny ok (x+32) l.length (fun j=>l[j]?.getD 0) hf (by omega)).wide (y:=x) (m:=n) (by omega) (by omega);have hon:=znz ok (x+32) l.length (fun j=>l[j]?.getD 0) hf (by omega);refine(zn5 g.h.m (x+32) ((l.length+3)/4*4) 5 c a l hb hg (by omega) (by omega) (fun g g1 g2=>b7 g (by omega) (by omega)) (by omega) (by omega) (by omega) (by decide) _ _ (by push_cast;rfl) rfl).mono fun e w' ⟨he,k1,k2⟩=>⟨he,k2,_,g.one (g.h.step k1 k2) k2 hlv hno rfl rfl rfl rfl rfl rfl rfl ho,?_,rfl,rfl,hon⟩;have hsz:sz X.tag.toNat=32:=by rw[ht];rfl
 refine hX.keep rfl rfl (fun g g1 g2=>b7 g g1 (by omega)) (by omega) (fun k hk=> ?_);rw[znx ok (x+32) l.length _ hf (by omega),if_neg (by omega)]
theorem WB.rgI(g:WB w0 q S L u E B W)(hL:∀y,Lr y→L y∧(E y).tag=1)(sub:∀y∈R,Lr y)(nd:R.Nodup)(h1:u.rt 13=R.headD 0)(h2:u.rt 14=b)(h3:u.rt 15=R.length)(h4:R≠ []→b∈R)(h5:R= []→b=0)(cy:Cyc E R)(out:∀y,Lr y→y∉R→(E y).next=0∧(E y).prev=0):RgI u Lr E R b:=by
 refine⟨⟨g.h.m.ok,fun y hy=> ?_,fun y z hy hz hne=> ?_⟩,sub,nd,h1,h2,h3,h4,h5,cy,out⟩
 ·have hb:=g.ix.e y (hL y hy).1
  have ht:=(hL y hy).2;have hh:=hb.h;rw[show(E y).tag.toNat=1 from by rw[ht];rfl]at hh;exact⟨hh,hb.ok,hb.r,ht⟩
 ·obtain⟨c1,_,k1,k2,l1,_⟩:=(g.ct y (hL y hy).1).n
  obtain⟨c2,_,m1,m2,l2,_⟩:=(g.ct z (hL z hz).1).n;have:=g.apart l1 l2 hne;have:=zmc c1 k1 k2;have:=zmc c2 m1 m2;omega
theorem NI.addE(g:NI w0 q S L l u E B W)(g':WB w0 q S' (fun y=>y=x∨L y) v E' B' W')(hx:¬L x)(ht:(E' x).tag=1)(he:∀y,y≠x→(E' y).tag=(E y).tag∧(E' y).name=(E y).name∧(E' y).hash=(E y).hash)(hb:∀y,y≠x→B' y=B y)(hr:v.rt 17=u.rt 17)(hin:∀y,y≠0→(InT 224 v.sl y↔y=x∨InT 224 u.sl y)):NI w0 q S' (fun y=>y=x∨L y) l v E' B' W':=by
 have hxl:∀y∈l,y≠x:=fun y hy e=>hx (by rw[←e];exact((g.mem y).1 hy).1);have hx0:x≠0:=(g'.ne0 (.inl rfl)).1
 have hh:∀y,y=0∨y∈l→hsh E' y=hsh E y:=fun y hy=>by
  unfold hsh;rcases hy with e|e
  ·rw[if_pos e,if_pos e]
  ·rw[(he y (hxl y e)).2.2]
 refine⟨g',g.nd,fun y=> ?_,by rw[hr];exact g.cnt,fun y hy=>by rw[hin y hy,g.inx y hy],fun y hy=>by rw[(he y (hxl y hy)).2.1];exact g.up y hy,fun y hy=> ?_,fun y hy=>by rw[hb y (hxl y hy)];exact g.lb y hy,fun y hy z hz=>by rw[(he y (hxl y hy)).2.1,(he z (hxl z hz)).2.1,hb y (hxl y hy),hb z (hxl z hz)];exact g.one y hy z hz⟩
 ·by_cases e:y=x
  ·subst e
   exact⟨fun k=>absurd rfl (hxl y k),fun k=>by have:=k.2;omega⟩
  ·rw[g.mem y,(he y e).1]
   exact⟨fun k=>⟨.inr k.1,k.2⟩,fun k=>⟨k.1.resolve_left e,k.2⟩⟩
 ·rw[(he y (hxl y hy)).2.2,(he y (hxl y hy)).2.1,hh _ (g.up y hy),hb y (hxl y hy)]
  exact g.hs y hy
theorem NI.delE(g:NI w0 q S L l u E B W)(g':WB w0 q S' (fun y=>L y∧y≠x) v E' B W')(hx:x∉l)(he:∀y,(E' y).tag=(E y).tag∧(E' y).name=(E y).name∧(E' y).hash=(E y).hash)(hr:v.rt 17=u.rt 17)(hin:∀y,y≠0→(InT 224 v.sl y↔InT 224 u.sl y∧y≠x)):NI w0 q S' (fun y=>L y∧y≠x) l v E' B W':=by
 have hh:∀y,hsh E' y=hsh E y:=fun y=>by unfold hsh;rw[(he y).2.2]
 refine⟨g',g.nd,fun y=> ?_,by rw[hr];exact g.cnt,fun y hy=>by rw[hin y hy,g.inx y hy],fun y hy=>by rw[(he y).2.1];exact g.up y hy,fun y hy=>by rw[(he y).2.2,(he y).2.1,hh];exact g.hs y hy,g.lb,fun y hy z hz=>by rw[(he y).2.1,(he z).2.1];exact g.one y hy z hz⟩;rw[g.mem y,(he y).1];exact⟨fun k=>⟨⟨k.1,fun e=>hx (by rw[←e];exact(g.mem y).2 k)⟩,k.2⟩,fun k=>⟨k.1.1,k.2⟩⟩
end
def clsM(m:Nat):Nat:=if m≤32 then 1 else if m≤48 then 2 else if m≤64 then 3 else if m≤96 then 4 else if m≤128 then 5 else if m≤192 then 6 else if m≤256 then 7 else if m≤384 then 8 else 9
theorem zy5(m:Nat)(h:m≤512):1≤clsM m∧clsM m≤9∧m≤csz (clsM m)∧∀i,i<clsM m→1≤m→csz i<m:=by
 have key:∀m,m<513→1≤clsM m∧clsM m≤9∧m≤csz (clsM m)∧∀i,i<9→i<clsM m→1≤m→csz i<m:=by decide+kernel
 obtain⟨h1,h2,h3,h4⟩:=key m (by omega);exact⟨h1,h2,h3,fun i hi h=>h4 i (by omega) hi h⟩
section
variable{w:World}
theorem cofM(hM:TabM w)(m:Nat)(h1:1≤m)(h5:m≤512):Calls prog 120 #[m] w (zE (.tuple #[(clsM m),(0:Int)]) w):=by
 have cc:=hM.cls;simp[clsT,zdn]at cc
 have HX:=hid (fun i (hi:i<10)=>(show∀W,(Instr.index 165 (.agg #[(0:Int),(32:Int),(48:Int),(64:Int),(96:Int),(128:Int),(192:Int),(256:Int),(384:Int),(512:Int)]) (.int .i64 (i:Nat))).run prog W= .ok (.int .i64 (csz i:Nat)) W from by
  have:i=0∨i=1∨i=2∨i=3∨i=4∨i=5∨i=6∨i=7∨i=8∨i=9:=by omega
  rcases this with rfl|rfl|rfl|rfl|rfl|rfl|rfl|rfl|rfl|rfl<;>(intro W;kernel_rfl)))
 obtain⟨k1,k2,k3,k4⟩:=zy5 m h5;have K4:=hid k4;have b0:=dF ((m:Int)<1);generalize clsM m=c at*;obtain⟨z,hz⟩:∃z:Nat→Nat,∀i,csz i=z i:=⟨csz,fun _=>rfl⟩;simp only[hz]at HX K4 k3;clear hM k4 hz;go_in;go_wp2;go_loopg [9] 11 (fun gk v9 W=>∃i:Nat,v9= .int .i64 i∧(i+gk=11∧i≤c)∧w=W);case atStart=>exact⟨0,rfl,by omega,rfl⟩
 case round=>
  obtain⟨i,rfl,hi,rfl⟩:=hrel;have hx:=HX.out i (by omega);have b6:=dT ((i:Int)<10);have wi:=i6 ((i:Int)+1);by_cases hlt:i<c
  ·have hz:=K4.out i hlt h1
   generalize z i=y at*;have b7':=dF (m≤y);go_wp2;go_roundg (gk-1);case measure=>omega
   case rel=>exact⟨i+1,by go_num,by omega,rfl⟩
  ·obtain rfl:i=c:=by omega
   generalize z i=y at*;go_wp2;go_ret2;exact⟨rfl,rfl⟩
theorem zy6(hM:TabM w)(n:Nat)(hn:n≤480):Calls prog 55 #[n] w (zE (.tuple #[.int .i64 (clsM (32+n)),(0:Int)]) w):=by
 have HC:=cofM hM (32+n) (by omega) (by omega);have b0:=dF ((n:Int)<0);have b1:=dF ((480:Int)<n);have wn:IntKind.i64.wrap (32+(n:Int))=((32+n:Nat):Int):=by rw[i6 _];push_cast;rfl
 generalize clsM (32+n)=c at*;clear hM;rw[show((32+n:Nat):Int)=32+(n:Int)from by push_cast;rfl]at HC;go_in;go_wp2_with fail;go_call HC as e w2 ⟨rfl,rfl⟩;go_wp2;go_ret2;exact⟨rfl,rfl⟩
end
def HN:List (List Nat)→Nat
 | [] =>2166136261
 |s::t=>mixL (HN t) s
section
variable{w0 W:World}{q:MH}{S:SS}{x y n b c name typ ex k:Nat}{u v:TM}{L:Nat→Prop}{E E':Nat→HB}{B B':Nat→List Nat}{R l:List Nat}{X:HB}{bs:List Nat}{g:EW}{par refs:Nat→Nat}{nm:Nat→List (List Nat)}
theorem zy7{B0:Nat→List Nat}(gi:NI w0 q S L l u E B0 W)(r:∀y∈l,(E y).name=par y∧(E y).refs=refs y∧B0 y=B y)(kn:NmOk l par B nm):∀(n:Nat) (y:Nat),(nm y).length≤n→(y=0∨y∈l)→hsh E y=HN (nm y)
 |n,y,hn,.inl hy=>by subst hy;rw[kn.z];rfl
 |0,y,hn,.inr hy=>by rw[kn.s y hy]at hn;cases hn
 |n+1,y,hn,.inr hy=>by
  have h0:=(gi.lt hy).1;have hs:=gi.hs y hy;have hu:=gi.up y hy;rw[(r y hy).1]at hs hu;rw[kn.s y hy]at hn⊢;rw[List.length_cons]at hn;have ih:=zy7 gi r kn n (par y) (by omega) hu;show(if y=0 then 2166136261 else(E y).hash)=mixL (HN (nm (par y))) (B y);rw[if_neg h0,hs,ih,(r y hy).2.2]
def MkE(w0:World)(q:MH)(S:SS)(L:Nat→Prop)(l:List Nat)(u:TM)(E:Nat→HB)(B:Nat→List Nat)(x:Nat)(X:HB)(bs R:List Nat)(b:Nat)(w':World):Prop:=
 ∃v' E' B',NI w0 q S (fun y=>y=x∨L y) l v' E' B' w'∧RgI v' (fun y=>y=x∨y∈R) E' (R++ [x]) (insB R b x)∧(∀y,cln (E' y)=cln (up E x X y))∧(∀y,B' y=up B x bs y)∧ ∀f,f<13∨15<f→v'.rt f=u.rt f
theorem zy8{Ls:List (List Nat)}(gi:NI w0 q S L l u E B W)(hG:GoodR Ls)(hf:Fx u S L x (clsM (32+(zqj Ls).length)))(r:RgI u (fun y=>y∈R) E R b)(hRL:∀y∈R,L y)(a:Option Addr)(cc:Nat)(hb:Byt W a (zqj Ls))(hcc:(zqj Ls).length≤cc)(hq:∀g o,a=some ⟨g,o,none⟩→g∉q.blocks)
  (hx:name=0∨name∈l) (ht:typ<65536) (hex:ex<18446744073709551616) (hFi:∀V,NI w0 q S L l u E B V→Calls prog 19 #[q,name,.int .u16 typ] V (zR (.tuple #[(0:Int),false]) fun w'=>IsH w' q u∧Fr q.blocks V w')):
  Calls prog 53 #[q,x,name,.int .u16 typ,.int .u64 ex,.slice a (zqj Ls).length cc] W (zR (0:Int) fun w'=>Fr q.blocks W w'∧MkE w0 q S L l u E B x (enX (clsM (32+(zqj Ls).length)) (zqj Ls).length name typ ex (keyH (hsh E name) typ)) (zqj Ls) R b w'):=by
 have hpl:(zqj Ls).length≤480:=by rw[zqp,←hG.size];exact hG.s
 obtain⟨c1,c9,hfit,_⟩:=zy5 (32+(zqj Ls).length) (by omega)
 have hn2:name<1048576:=by
  rcases hx with e|e
  ·omega
  ·exact(gi.lt e).2
 have hk:=zym (h:=hsh E name) typ;have hxb:=gi.wb.at_ hf.lv;have hbase:=gi.wb.base;have hcz:=gi.wb.cz;have hls:zdw 7 224≤1048576:=by decide
 have hx0:x≠0:=by omega
 have hxR:x∉R:=fun hm=>hf.no (hRL x hm);obtain⟨X,hX⟩:∃X,enX (clsM (32+(zqj Ls).length)) (zqj Ls).length name typ ex (keyH (hsh E name) typ)=X:=⟨_,rfl⟩;have hXo:X.Ok:=hX▸zy2 c9 hpl (by omega) ht hex hk;have hXr:X.right=true:=hX▸zy3 ⟨c1,c9⟩ hpl;have hXt:X.tag=1:=by rw[←hX];rfl
 have HQ:=hid hq;have HS:=hid (fun V V' (hV:NI w0 q S L l u E B V∧Byt V a (zqj Ls)∧Fr q.blocks W V) (k:IsH V' q u) (f:Fr q.blocks V V')=>(show NI w0 q S L l u E B V'∧Byt V' a (zqj Ls)∧Fr q.blocks W V' from⟨hV.1.same k f,hV.2.1.fr f hq,hV.2.2.trans f⟩));have H0:=hid (show NI w0 q S L l u E B W∧Byt W a (zqj Ls)∧Fr q.blocks W W from⟨gi,hb,Fr.refl _ _⟩);have HCf:=hid (fun V (hV:NI w0 q S L l u E B V)=>(show Calls prog 78 #[q] V (zN (.agg #[u.a,u.s]) V)from zgy hV.wb.h.m));have hE:=zpn u.a u.s gi.wb.h.m.ok.cfg.a1;have HUn:=hid (fun V (hV:NI w0 q S L l u E B V∧Byt V a (zqj Ls)∧Fr q.blocks W V)=>(show Calls prog 63 #[.slice a (zqj Ls).length cc] V fun e w'=>∃v,e= .returned (.tuple #[v,(0:Int)])∧Fr [] V w' from(zrm V a cc Ls hG hV.2.1 hcc).mono fun e w' ⟨v,h1,_,h3⟩=>⟨v,h1,h3⟩));have HCl:=hid (fun V (hV:NI w0 q S L l u E B V)=>zy6 hV.wb.h.m.tab (zqj Ls).length hpl);have HNm:=hid (fun V (hV:NI w0 q S L l u E B V)=>zyp hV hx);have HBl:=hid (fun V (hV:NI w0 q S L l u E B V)=>zys hV.wb hf);have HFi:=hid hFi;have HHs:=hid (fun V (hV:NI w0 q S L l u E B V)=>zyo hV hx typ ht)
 have HPu:=hid (fun V (hV:NI w0 q S L l u E B V)=>(show Calls prog 88 #[q,x,.agg #[(1:Int),.int .i64 (clsM (32+(zqj Ls).length)),false,(0:Int),.int .u32 name,.int .u32 0,.int .u32 0,.int .u32 0,.int .u64 ex,.int .u16 typ,.int .i64 (zqj Ls).length,.int .u32 (keyH (hsh E name) typ)]] V (zR (0:Int) fun w'=>Fr q.blocks V w'∧∃v,(WB w0 q S L v E B w'∧BlkE v x X)∧v.sl=u.sl∧v.rt=u.rt)from by
  have:=zwo hV.wb hf.lv hf.no hXo hXr (.inl hXt);rw[←hX]at this;refine this.mono fun e w' ⟨h1,h2,v,h3,h4,h5,h6⟩=>⟨h1,h2,v,⟨h3,hX▸h4⟩,h5,h6⟩))
 have HWr:=hid (fun V v (hV:(WB w0 q S L v E B V∧BlkE v x X)∧v.sl=u.sl∧v.rt=u.rt) (hB:Byt V a (zqj Ls))=>(show Calls prog 112 #[q,((x:Int)+32:),.slice a (zqj Ls).length cc,(5:Int)] V (zR true fun w'=>Fr q.blocks V w'∧∃v',WB w0 q S (fun y=>y=x∨L y) v' (up E x X) (up B x (zqj Ls)) w'∧v'.sl=u.sl∧v'.rt=u.rt)from by
  have:=zy4 (c:=cc) hV.1.1 hf.lv hf.no hV.1.2 hXt hB (fun g o e k=>hq g o e (by rw[k];simp[MH.blocks])) hfit;refine this.mono fun e w' ⟨h1,h2,v',h3,h4,h5,h6,h7⟩=>⟨h1,h2,v',h3.add hf.no h4 ?_,h5.trans hV.2.1,h6.trans hV.2.2⟩;have hsz:sz X.tag.toNat=32:=by rw[hXt];rfl
  refine⟨⟨clsM (32+(zqj Ls).length),?_,c1,c9,hf.lv,?_⟩,hb.byte,?_,fun h=> ?_,fun _=> ?_⟩
  ·rw[←hX];rfl
  ·rw[hsz];exact hfit
  ·rw[hsz];exact h7
  ·rw[hXt]at h;cases h
  ·rw[←hX];rfl))
 have hNx:¬InT 224 u.sl x:=fun h=>hf.no ((gi.inx x hx0).1 h)
 have HIn:=hid (fun V v (hV:WB w0 q S (fun y=>y=x∨L y) v (up E x X) (up B x (zqj Ls)) V∧v.sl=u.sl∧v.rt=u.rt)=>(show Calls prog 113 #[q,x] V (zR (0:Int) fun w'=>Fr q.blocks V w'∧∃(T:Nat→Nat) (v:TM),(NI w0 q S (fun y=>y=x∨L y) l (v.wsl T) (up E x X) (up B x (zqj Ls)) w'∧v.rt=u.rt))from by
  refine(zwm hV.1 (.inl rfl) (by rw[hV.2.1];exact hNx)).mono fun e w' ⟨h1,h2,T,h3,h4⟩=>⟨h1,h2,T,v,?_,hV.2.2⟩;exact gi.addE h3 hf.no (by rw[zf1];exact hXt) (fun y hy=>by rw[zf2 _ _ hy];exact⟨rfl,rfl,rfl⟩) (fun y hy=>zf2 _ _ hy) (show v.rt 17=u.rt 17 by rw[hV.2.2]) (fun y hy=>by rw[←hV.2.1];exact h4 y hy)))
 have HRi:=hid (fun V (T:Nat→Nat) (v:TM) (hV:NI w0 q S (fun y=>y=x∨L y) l (v.wsl T) (up E x X) (up B x (zqj Ls)) V∧v.rt=u.rt)=>(show Calls prog 114 #[q,x] V (zR (0:Int) fun w'=>Fr q.blocks V w'∧MkE w0 q S L l u E B x X (zqj Ls) R b w')from by
  have hrt:(v.wsl T).rt=u.rt:=hV.2;have hne:∀y∈R,y≠x:=fun y hy e=>hxR (e▸hy)
  have hr:RgI (v.wsl T) (fun y=>y=x∨y∈R) (up E x X) R b:=by
   refine hV.1.wb.rgI (fun y hy=> ?_) (fun y hy=> .inr hy) r.nd (by rw[hrt];exact r.hand) (by rw[hrt];exact r.broom) (by rw[hrt];exact r.cnt) r.bin r.bnil (r.cyc.same (fun y hy=>by rw[zf2 _ _ (hne y hy)];exact⟨rfl,rfl⟩)) (fun y hy hn=> ?_)
   ·rcases hy with e|hy
    ·subst e
     rw[zf1];exact⟨.inl rfl,hXt⟩
    ·rw[zf2 _ _ (hne y hy)]
     exact⟨.inr (hRL y hy),(r.ents.e y hy).tag⟩
   ·rw[hy.resolve_right hn,zf1,←hX]
    exact⟨rfl,rfl⟩
  refine(zy0 hV.1.wb hr (fun y hy=>hy.imp id (hRL y)) (.inl rfl) hxR).mono fun e w' ⟨h1,h2,h3⟩=>⟨h1,h2,_,_,_,hV.1.re h3 (fun y=> ?_) (hr.nbrIns (.inl rfl)).sl ((hr.nbrIns (.inl rfl)).rt 17 (.inr (by decide))),hr.insAny (.inl rfl) hxR,fun y=>zyy _ _ _ _,fun y=>rfl,fun f hf=>((hr.nbrIns (.inl rfl)).rt f hf).trans (by rw[hrt])⟩;have:=zyz (zyy (up E x X) R x y);exact⟨this.1,this.2.2.2.2.1,this.2.2.2.2.2.2.2.2.2⟩))
 have wu:IntKind.u32.wrap (name:Int)=(name:Int):=IntWalk.u32_in _ (by omega);have wx:=i6 ((x:Int)+32);rw[hX];obtain⟨Q,hQ⟩:∃Q:World→Prop,∀V,MkE w0 q S L l u E B x X (zqj Ls) R b V=Q V:=⟨_,fun _=>rfl⟩;simp only[hQ]at HRi⊢;generalize keyH (hsh E name) typ=kh at*;generalize clsM (32+(zqj Ls).length)=cl at*;generalize hz:(zqj Ls).length=z at*;generalize u.a=ua at*;generalize u.s=us at*;clear hz hQ hX hXo hXr hXt hk hxb hbase hcz hls hx0 hxR hfit hNx r hRL hb hcc hq hFi hG hf gi c1 c9 hpl hn2;go_in;go_wp2_with fail;go_call HCf.out _ H0.out.1 as e w1 ⟨rfl,f1⟩;have K1:=hid (show NI w0 q S L l u E B w1∧Byt w1 a (zqj Ls)∧Fr q.blocks W w1 from⟨H0.1.fr0 f1,H0.2.1.fr f1 (by simp),f1.nil⟩);clear f1 HCf H0;go_wp2_with fail;go_call HUn.out _ K1.out as e w2 ⟨v2,rfl,f2⟩;have K2:=hid (show NI w0 q S L l u E B w2∧Byt w2 a (zqj Ls)∧Fr q.blocks W w2 from⟨K1.1.fr0 f2,K1.2.1.fr f2 (by simp),K1.2.2.trans f2.nil⟩);clear f2 HUn K1;go_wp2_with fail;go_call HCl.out _ K2.out.1 as e w3 ⟨rfl,he3⟩;rw[he3];clear he3 HCl;go_wp2_with fail;go_call HNm.out _ K2.out.1 as e w4 ⟨rfl,k4,f4⟩;have K4:=hid (HS.out _ _ K2.out k4 f4);clear k4 f4 HNm K2;go_wp2_with fail;go_call HBl.out _ K4.out.1 as e w5 ⟨rfl,k5,f5⟩;have K5:=hid (HS.out _ _ K4.out k5 f5);clear k5 f5 HBl K4;go_wp2_with fail;go_call HFi.out _ K5.out.1 as e w6 ⟨rfl,k6,f6⟩;have K6:=hid (HS.out _ _ K5.out k6 f6);clear k6 f6 HFi K5;go_wp2_with fail;go_call HHs.out _ K6.out.1 as e w7 ⟨rfl,k7,f7⟩;have K7:=hid (HS.out _ _ K6.out k7 f7);clear k7 f7 HHs K6;go_wp2_with fail;go_call HPu.out _ K7.out.1 as e w8 ⟨rfl,f8,v8,k8⟩;have K8:=hid k8;have F8:=hid (And.intro (K7.2.1.fr f8 HQ.out) (K7.2.2.trans f8));clear k8 f8 HPu K7;go_wp2_with fail;go_call HWr.out _ v8 K8.out F8.out.1 as e w9 ⟨rfl,f9,v9,k9⟩;have K9:=hid k9;have F9:=F8.2.trans f9;clear k9 f9 HWr K8 F8;go_wp2_with fail;go_call HIn.out _ v9 K9.out as e w10 ⟨rfl,f10,T,v10,k10⟩;have K10:=hid k10;have F10:=F9.trans f10;clear k10 f10 HIn K9 F9;go_wp2_with fail;go_call HRi.out _ T v10 K10.out as e w11 ⟨rfl,f11,k11⟩;have K11:=hid k11;have F11:=F10.trans f11;clear k11 f11 HRi K10 F10;go_wp2;go_ret;exact⟨rfl,F11,K11.out⟩
end
theorem zy9(w:World):Calls prog 63 #[.slice none 0 0] w (zE (.tuple #[.slice none 0 0,(3:Int)]) w):=by
 have hE:Calls prog 141 #[.slice none 0 0] w (zE (.tuple #[.slice none 0 0,(3:Int)]) w):=by
  go_in;go_wp2;go_ret2;exact⟨rfl,rfl⟩
 go_in;go_wp2_with fail;go_call hE as e w2 ⟨rfl,rfl⟩;go_wp2;go_ret2;exact⟨rfl,rfl⟩
section
variable{w0 W:World}{q:MH}{S:SS}{x y b name typ ex k fr:Nat}{u v:TM}{L:Nat→Prop}{E E':Nat→HB}{B B':Nat→List Nat}{R l:List Nat}{g:EW}{par refs own:Nat→Nat}{nm:Nat→List (List Nat)}
theorem zza(hT:IsT W q u)(p name:Nat):Calls prog 53 #[q,p,name,.int .u16 typ,.int .u64 ex,.slice none 0 0] W (zN (3:Int) W):=by
 have hc:=zgy hT;have hE:=zpn u.a u.s hT.ok.cfg.a1;unfold cfgV at hc;have HU:=hid zy9;generalize u.a=a at*;generalize u.s=s at*;clear hT;go_in;go_wp2_with fail;go_call hc as e w1 ⟨rfl,f1⟩;clear hc;go_wp2_with fail;go_call HU.out _ as e w2 ⟨rfl,rfl⟩;go_wp2;go_ret;exact⟨rfl,f1⟩
theorem zzb{Ls:List (List Nat)}(gi:NI w0 q S L l u E B W)(hG:GoodR Ls)(hf:Fx u S L x (clsM (32+(zqj Ls).length)))(a:Option Addr)(cc:Nat)(hb:Byt W a (zqj Ls))(hcc:(zqj Ls).length≤cc)
  (hx:name=0∨name∈l) (z:Nat) (hFi:∀V,NI w0 q S L l u E B V→Calls prog 19 #[q,name,.int .u16 typ] V (zR (.tuple #[z,true]) fun w'=>IsH w' q u∧Fr q.blocks V w')):
  Calls prog 53 #[q,x,name,.int .u16 typ,.int .u64 ex,.slice a (zqj Ls).length cc] W (zR (8:Int) fun w'=>Fr q.blocks W w'∧NI w0 q S L l u E B w'):=by
 have hpl:(zqj Ls).length≤480:=by rw[zqp,←hG.size];exact hG.s
 have HCf:=hid (fun V (hV:NI w0 q S L l u E B V)=>(show Calls prog 78 #[q] V (zN (.agg #[u.a,u.s]) V)from zgy hV.wb.h.m));have hE:=zpn u.a u.s gi.wb.h.m.ok.cfg.a1;have HUn:=hid (fun V (hV:Fr [] W V)=>(show Calls prog 63 #[.slice a (zqj Ls).length cc] V fun e w'=>∃v,e= .returned (.tuple #[v,(0:Int)])∧Fr [] V w' from(zrm V a cc Ls hG (hb.fr hV (by simp)) hcc).mono fun e w' ⟨v,h1,_,h3⟩=>⟨v,h1,h3⟩));have HCl:=hid (fun V (hV:NI w0 q S L l u E B V)=>zy6 hV.wb.h.m.tab (zqj Ls).length hpl);have HNm:=hid (fun V (hV:NI w0 q S L l u E B V)=>zyp hV hx);have HBl:=hid (fun V (hV:NI w0 q S L l u E B V)=>zys hV.wb hf);have HFi:=hid hFi;generalize clsM (32+(zqj Ls).length)=cl at*;generalize hz:(zqj Ls).length=zl at*;generalize u.a=ua at*;generalize u.s=us at*;clear hz hb hcc hFi hG hf hpl;go_in;go_wp2_with fail;go_call HCf.out _ gi as e w1 ⟨rfl,f1⟩;have K1:=hid (gi.fr0 f1);clear HCf gi;go_wp2_with fail;go_call HUn.out _ f1 as e w2 ⟨v2,rfl,f2⟩;have K2:=hid (And.intro (K1.fr0 f2) ((f1.trans f2).nil (S:=q.blocks)));clear f2 HUn K1 f1;go_wp2_with fail;go_call HCl.out _ K2.out.1 as e w3 ⟨rfl,he3⟩;rw[he3];clear he3 HCl;go_wp2_with fail;go_call HNm.out _ K2.out.1 as e w4 ⟨rfl,k4,f4⟩;have K4:=hid (And.intro (K2.1.same k4 f4) (K2.2.trans f4));clear k4 f4 HNm K2;go_wp2_with fail;go_call HBl.out _ K4.out.1 as e w5 ⟨rfl,k5,f5⟩;have K5:=hid (And.intro (K4.1.same k5 f5) (K4.2.trans f5));clear k5 f5 HBl K4;go_wp2_with fail;go_call HFi.out _ K5.out.1 as e w6 ⟨rfl,k6,f6⟩;have K6:=hid (And.intro (K5.1.same k6 f6) (K5.2.trans f6));clear k6 f6 HFi K5;go_wp2;go_ret;exact⟨rfl,K6.2,K6.1⟩
structure EHs(g:EW)(l:List Nat)(nm:Nat→List (List Nat)):Prop where
 ok: ∀y∈g.R,(g.d y).name=0∨(g.d y).name∈l
 hs: ∀y∈g.R,(g.d y).hash=keyH (HN (nm (g.d y).name)) (g.d y).typ
 one: ∀y∈g.R,∀z∈g.R,(g.d y).name=(g.d z).name→(g.d y).typ=(g.d z).typ→y=z
theorem zzc(gi:NI w0 q S L l u E B' W)(hA:∀z,L z→z∈l∨z∈g.R)(hR:∀z∈g.R,L z∧z∉l)(hd:EnD g u E B')(r:∀y∈l,(E y).name=par y∧(E y).refs=refs y∧B' y=B y)(kn:NmOk l par B nm)(h:EHs g l nm)(hx:name=0∨name∈l)(ht:typ<65536):Calls prog 19 #[q,name,.int .u16 typ] W (zR (ansN (g.R.find? (zyq g.d name typ))) fun w'=>IsH w' q u∧Fr q.blocks W w'):=by
 have hc:∀y∈g.R,(E y).name=(g.d y).name∧(E y).typ=(g.d y).typ∧(E y).hash=(g.d y).hash:=fun y hy=>by
  have:=(hd.dat y hy).1;rw[←this];exact⟨rfl,rfl,rfl⟩
 have:=zyr gi hA hR hx typ ht (fun y hy=>by
  obtain⟨h1,h2,h3⟩:=hc y hy;rw[h1,h2,h3,h.hs y hy,zy7 gi r kn _ _ (Nat.le_refl _) (h.ok y hy)]) (fun y hy z hz=>by
  rw[(hc y hy).1,(hc z hz).1,(hc y hy).2.1,(hc z hz).2.1];exact h.one y hy z hz)
 have e:g.R.find? (zyq E name typ)=g.R.find? (zyq g.d name typ):=by
  have:∀M:List Nat,(∀y∈M,y∈g.R)→M.find? (zyq E name typ)=M.find? (zyq g.d name typ):=fun M=>by
   induction M with
   |nil=>intro _;rfl
   |cons a M ih=>
    intro hM;have h1:=hc a (hM a (by simp));rw[List.find?_cons,List.find?_cons,ih (fun y hy=>hM y (List.mem_cons_of_mem _ hy))];unfold zyq;rw[h1.1,h1.2.1]
  exact this g.R (fun y hy=>hy)
 rw[e]at this;exact this
theorem zzd {Ls : List (List Nat)} (h : CPT w0 q g l par own nm x (clsM (32 + (zqj Ls).length)) W) (hE : EHs g l nm) (hG : GoodR Ls) (a : Option Addr) (cc : Nat) (hb : Byt W a (zqj Ls)) (hcc : (zqj Ls).length ≤ cc) (hq : ∀ k o, a = some ⟨k, o, none⟩ → k ∉ q.blocks)
    (hx : name = 0 ∨ name ∈ l) (ht : typ < 65536) (hex : ex < 18446744073709551616) :
    Calls prog 53 #[q, x, name, .int .u16 typ, .int .u64 ex, .slice a (zqj Ls).length cc] W fun e w' => Fr q.blocks W w' ∧
      ((e = .returned (0 : Int) ∧ g.R.find? (zyq g.d name typ) = none ∧ x ∉ g.R ∧ x ∉ l ∧ x ≠ 0 ∧ x < 1048576 ∧ ∃ fr, CP w0 q (g.add x (enX (clsM (32 + (zqj Ls).length)) (zqj Ls).length name typ ex (keyH (HN (nm name)) typ)) (zqj Ls)) l par own nm fr w') ∨
       (e = .returned (8 : Int) ∧ (∃ z, g.R.find? (zyq g.d name typ) = some z) ∧ CPT w0 q g l par own nm x (clsM (32 + (zqj Ls).length)) w')) := by
  have hne := h
  obtain ⟨refs, B, h1, kn, h3⟩ := h
  have hxl := h1.ne
  obtain ⟨S, L, u, E, B0, gi, hfx, ha, hd, r⟩ := h1
  have hA : ∀ z, L z → z ∈ l ∨ z ∈ g.R := fun z hz => by
    obtain ⟨m, hm⟩ := gi.wb.lv hz
    exact (ha.1 z m hm).resolve_left (fun e => hfx.no (by rw [← e]; exact hz))
  have hF := fun V (hV : NI w0 q S L l u E B0 V) => zzc (W := V) hV hA ha.2 hd r kn hE hx ht
  cases hf : g.R.find? (zyq g.d name typ) with
  | some z =>
    rw [hf] at hF
    exact (zzb gi hG hfx a cc hb hcc hx z hF).mono fun e w' ⟨h1, h2, h4⟩ => ⟨h2, .inr ⟨h1, ⟨z, rfl⟩, refs, B, ⟨S, L, u, E, B0, h4, hfx, ha, hd, r⟩, kn, h3⟩⟩
  | none =>
    rw [hf] at hF
    have hRt : ∀ y ∈ g.R, L y ∧ (E y).tag = 1 := fun y hy => ⟨(ha.2 y hy).1, by
      rcases (gi.wb.ix.e y (ha.2 y hy).1).tg with k | k
      · exact k
      · exact absurd ((gi.mem y).2 ⟨(ha.2 y hy).1, k⟩) (ha.2 y hy).2⟩
    have hr : RgI u (fun y => y ∈ g.R) E g.R g.b := gi.wb.rgI hRt (fun y hy => hy) hd.nd hd.hand hd.broom hd.cnt hd.bin hd.bnil hd.cyc (fun y hy hn => absurd hy hn)
    have hxR : x ∉ g.R := fun hm => hfx.no (ha.2 x hm).1
    rw [← zy7 gi r kn _ _ (Nat.le_refl _) hx]
    refine (zy8 gi hG hfx hr (fun y hy => (ha.2 y hy).1) a cc hb hcc hq hx ht hex hF).mono fun e w' ⟨h1, h2, v', E', B', k1, k2, k3, k4, k5⟩ => ⟨h2, .inl ⟨h1, rfl, hxR, hxl.1, hxl.2.1, hxl.2.2, _, refs, B, ⟨S, _, v', E', B', k1, ⟨fun y m hy => ?_, fun y hy => ?_⟩, ?_, fun y hy => ?_, rfl⟩, kn, h3⟩⟩
    · rcases ha.1 y m hy with k | k | k
      · exact .inr (List.mem_append_right _ (List.mem_singleton.2 k))
      · exact .inl k
      · exact .inr (List.mem_append_left _ k)
    · rcases List.mem_append.1 hy with k | k
      · exact ⟨.inr (ha.2 y k).1, (ha.2 y k).2⟩
      · rw [List.mem_singleton] at k
        exact ⟨.inl k, by rw [k]; exact hxl.1⟩
    · refine ⟨fun f h1 h2 => (k5 f (by omega)).trans (hd.rtb f h1 h2), k2.hand, k2.broom, k2.cnt, k2.nd, k2.bin, k2.bnil, k2.cyc, fun y hy => ?_⟩
      rw [k3 y, k4 y]
      rcases List.mem_append.1 hy with k | k
      · have e : y ≠ x := fun e => hxR (e ▸ k)
        show _ = up g.d x _ y ∧ _ = up g.p x _ y
        rw [zf2 _ _ e, zf2 _ _ e, zf2 _ _ e, zf2 _ _ e]
        exact hd.dat y k
      · rw [List.mem_singleton] at k
        subst k
        show _ = up g.d y _ y ∧ _ = up g.p y _ y
        rw [zf1, zf1, zf1, zf1]
        exact ⟨rfl, rfl⟩
    · have e : y ≠ x := fun e => hxl.1 (e ▸ hy)
      have := zyz (k3 y)
      rw [zf2 _ _ e] at this
      rw [this.2.2.2.2.1, this.2.2.2.2.2.1, k4 y, zf2 _ _ e]
      exact r y hy
end
def sfx{α:Type}(N:List α)(k:Nat):List α:=N.drop (N.length-k)
theorem zze{α:Type}(N:List α):sfx N 0= [] :=by simp[sfx]
theorem zzf{α:Type}(N:List α):sfx N N.length=N:=by simp[sfx]
theorem zzg{α:Type}{N:List α}{k:Nat}(h:k≤N.length):(sfx N k).length=k:=by simp[sfx];omega
theorem zzh{α:Type}{N:List α}{k:Nat}(h:k<N.length):sfx N (k+1)=N[N.length-1-k]'(by omega)::sfx N k:=by
 unfold sfx;rw[List.drop_eq_getElem_cons (by omega:N.length-(k+1)<N.length)];congr 1
 ·congr 1;omega
 ·congr 1;omega
theorem zzi{α:Type}{N:List α}{j k:Nat}(h:j≤k)(hk:k≤N.length):∃s,sfx N k=s++sfx N j:=by
 refine⟨(sfx N k).take (k-j),?_⟩
 have e:sfx N j=(sfx N k).drop (k-j):=by
  unfold sfx;rw[List.drop_drop];congr 1;omega
 rw[e,List.take_append_drop]
structure Kn(l:List Nat)(nm:Nat→List (List Nat))(N:List (List Nat))(at_ k:Nat):Prop where
 le:k≤N.length
 pl:at_=0∨at_∈l
 ew:nm at_=sfx N k
 no:k<N.length→ ∀x∈l,nm x≠sfx N (k+1)
section
end
def zzj(L:List (List Nat)):Nat:=L.foldl (fun n s=>n+(s.length+1)) 1
def chkN(L:List (List Nat)):Nat:=if L.all zuz=true then(if 255<zzj L then 21 else 0)else 20
def lowN(L:List (List Nat)):List (List Nat):=L.map (fun s=>s.map lowB)
theorem zzk(L:List (List Nat)):(lowN L).length=L.length:=by simp[lowN]
theorem zzl:∀(L:List (List Nat)) (n:Nat),n≤L.foldl (fun n s=>n+(s.length+1)) n
 | [],n=>Nat.le_refl _
 |s::L,n=>by
  have:=zzl L (n+(s.length+1));rw[List.foldl_cons];omega
theorem zzm(L:List (List Nat))(k:Nat)(s:List Nat)(n:Nat)(h:L[k]?=some s):(L.take (k+1)).foldl (fun n s=>n+(s.length+1)) n=(L.take k).foldl (fun n s=>n+(s.length+1)) n+(s.length+1):=by
 rw[List.take_add_one,h,Option.toList_some,List.foldl_append];rfl
section
variable{w W:World}{fr p:Nat}
theorem zzn(w:World)(ad:Option Addr)(cap:Nat)(L:List (List Nat))(h:StrA w ad L):Calls prog 284 #[.slice ad L.length cap,.func (.func 223) #[] #[]] w (zN (.int .i64 (if L.all zuz=true then 0 else 20)) w):=by
 have hle:=h.len;obtain⟨n,hn⟩:∃n,L.length=n:=⟨_,rfl⟩;rw[hn];rw[hn]at hle;have HN:=hid hn;obtain⟨R,hR⟩:∃R:Int,(if L.all zuz=true then(0:Int)else 20)=R:=⟨_,rfl⟩;rw[hR]
 have H20:=hid (fun(s:List Nat) (hs:s∈L) (hk:¬zuz s=true)=>(show(20:Int)=R from by
  rw[←hR,if_neg];intro ha;exact hk (List.all_eq_true.1 ha s hs)))
 have H0:=hid (fun(hall:∀s∈L.take n,zuz s=true)=>(show(0:Int)=R from by
  rw[←hR,if_pos];rw[←hn,List.take_length]at hall;exact List.all_eq_true.2 hall))
 clear hn hR;go_in;go_wp2;go_loopg [10] (n+1) (fun gk v10 W=>∃i:Nat,v10= .int .i64 i∧(i+gk=n+1∧i≤n)∧Hid (∀s∈L.take i,zuz s=true)∧Hid (Fr [] w W));case atStart=>exact⟨0,rfl,by omega,hid (fun s hs=>by simp at hs),hid (Fr.refl [] w)⟩
 case round=>
  obtain⟨i,rfl,hi,HI,F3⟩:=hrel;by_cases hlt:i<n
  ·have hL:i<L.length:=by rw[HN.out];exact hlt
   obtain⟨g,o,rfl,hc,hg⟩:=h.at_ i hL;have hc1:=(F3.cell (p:=⟨g,o+i,none⟩) hg (by simp)).trans hc;have hs:=h.lt _ (List.getElem_mem hL);have hgd:L[i]?=some L[i] :=List.getElem?_eq_getElem hL;rw[hgd]at hc1;simp only[Option.getD_some]at hc1;have HM:=hid (List.getElem_mem hL);have HG:=hid hgd;generalize L[i]'hL=s at*;have HLb:=hid (fun V=>zu5 V s hs);have H20':=hid (fun hk=>H20.out s HM.out hk)
   have HI':=hid (fun hk:zuz s=true=>(show∀t∈L.take (i+1),zuz t=true from fun t ht=>by
    rw[List.take_add_one,HG.out,Option.toList_some]at ht;rcases List.mem_append.1 ht with h|h
    ·exact HI.out t h
    ·rw[List.mem_singleton]at h;rw[h];exact hk))
   have b6':=dT (i<n);have i0:(0:Int)≤i:=by omega
   have i1:(i:Int)<n:=by omega
   have wi:=i6 ((i:Int)+1);generalize za0 s=S at*;clear hc hs hL hgd;by_cases hk:zuz s=true
   ·have HIk:=hid (HI'.out hk)
    rw[if_pos hk]at HLb;clear hk;go_wp2_with fail;go_call HLb.out _ as e w5 ⟨rfl,f5⟩;have F5:=F3.trans f5;clear f5;go_wp2;go_roundg (gk-1);case measure=>omega
    case rel=>exact⟨i+1,by go_num,by omega,HIk,F5⟩
   ·have HR:=hid (H20'.out hk)
    rw[if_neg hk]at HLb;clear hk;go_wp2_with fail;go_call HLb.out _ as e w5 ⟨rfl,f5⟩;have F5:=F3.trans f5;clear f5;go_wp2;go_ret;exact⟨by rw[←HR.out];rfl,F5⟩
  ·obtain rfl:i=n:=by omega
   have HR:=hid (H0.out HI.out);go_wp2;go_ret;exact⟨by rw[←HR.out];rfl,F3.out⟩
theorem zzo(w:World)(ad:Option Addr)(cap:Nat)(L:List (List Nat))(h:StrA w ad L)(hb:zzj L≤1099511627776):Calls prog 285 #[.slice ad L.length cap] w (zE (zzj L) w):=by
 have hle:=h.len;obtain⟨n,hn⟩:∃n,L.length=n:=⟨_,rfl⟩;have HX:=hid (fun k s (hs:L[k]?=some s)=>zzm L k s 1 hs)
 have HB:=hid (fun k=>(show(L.take k).foldl (fun n s=>n+(s.length+1)) 1≤1099511627776 from by
  refine Nat.le_trans ?_ hb;unfold zzj;conv=>rhs;rw[←List.take_append_drop k L,List.foldl_append]
  exact zzl _ _))
 have HZ:=hid (show(L.take 0).foldl (fun n s=>n+(s.length+1)) 1=1 from rfl);have HF:=hid (show(L.take n).foldl (fun n s=>n+(s.length+1)) 1=zzj L from by rw[←hn,List.take_length];rfl);rw[←HF.out];obtain⟨M,hM⟩:∃M:Nat→Nat,(fun k=>(L.take k).foldl (fun n s=>n+(s.length+1)) 1)=M:=⟨_,rfl⟩;have hM':∀k,(L.take k).foldl (fun n s=>n+(s.length+1)) 1=M k:=fun k=>by rw[←hM]
 simp only[hM']at HX HB HZ⊢;rw[hn];rw[hn]at hle;have HN:=hid hn;clear hn hM hM' HF hb;go_in;go_wp2;go_loopg [3,8] (n+1) (fun gk v3 v8 W=>∃i:Nat,v3= .int .i64 (M i)∧v8= .int .i64 i∧(i+gk=n+1∧i≤n)∧w=W);case atStart=>exact⟨0,by rw[HZ.out];rfl,rfl,by omega,rfl⟩
 case round=>
  obtain⟨i,rfl,rfl,hi,rfl⟩:=hrel;by_cases hlt:i<n
  ·have hL:i<L.length:=by rw[HN.out];exact hlt
   obtain⟨g,o,rfl,hc,hg⟩:=h.at_ i hL;have hgd:L[i]?=some L[i] :=List.getElem?_eq_getElem hL;rw[hgd]at hc;simp only[Option.getD_some]at hc;have hx:=HX.out i _ hgd;generalize L[i]'hL=s at*;have hb1:=HB.out (i+1);have hsz:=zu1 s;generalize hk:s.length=k at hx hsz;have b6':=dT (i<n);have i0:(0:Int)≤i:=by omega
   have i1:(i:Int)<n:=by omega
   have wi:=i6 ((i:Int)+1);have wk:=i6 ((k:Int)+1);have HS:=hid hx;have wm:IntKind.i64.wrap ((M i:Int)+((k:Int)+1))=(M i:Int)+((k:Int)+1):=i6 _;generalize za0 s=S at*;clear hk hgd hL hx;go_wp2;go_roundg (gk-1);case measure=>omega
   case rel=>exact⟨i+1,by rw[HS.out];push_cast;rfl,by go_num,by omega,rfl⟩
  ·obtain rfl:i=n:=by omega
   go_wp2;go_ret;exact⟨rfl,rfl⟩
theorem zzp(w:World)(ad:Option Addr)(cap:Nat)(L:List (List Nat))(h:StrA w ad L)(hb:zzj L≤1099511627776):Calls prog 217 #[.slice ad L.length cap] w (zN (chkN L) w):=by
 have h1:=zzn w ad cap L h;have H2:=hid (fun V (hV:Fr [] w V)=>zzo V ad cap L (h.fr hV) hb);by_cases hk:L.all zuz=true
 ·rw[if_pos hk]at h1
  have HC:=hid (show(if 255<zzj L then 21 else 0)=chkN L from by unfold chkN;rw[if_pos hk]);generalize L.length=n at*;generalize zzj L=wl at*;clear h hk;go_in;go_wp2_with fail;go_call h1 as e w1 ⟨rfl,f1⟩;have h2:=H2.out _ f1;clear h1;go_wp2_with fail;go_call h2 as e w2 ⟨rfl,he⟩;rw[he];clear he h2;by_cases h5:255<wl
  ·have b1:=dT ((255:Int)<wl)
   have b1':=dT (255<wl);go_wp2;go_ret;exact⟨by rw[←HC.out,if_pos h5];rfl,f1⟩
  ·have b1:=dF ((255:Int)<wl)
   have b1':=dF (255<wl);go_wp2;go_ret;exact⟨by rw[←HC.out,if_neg h5];rfl,f1⟩
 ·rw[if_neg hk]at h1
  have HC:=hid (show 20=chkN L from by unfold chkN;rw[if_neg hk]);generalize L.length=n at*;clear h hk;go_in;go_wp2_with fail;go_call h1 as e w1 ⟨rfl,f1⟩;go_wp2;go_ret;exact⟨by rw[←HC.out];rfl,f1⟩
end
section
variable{w0 w W:World}{q:MH}{u0:EW}{l:List Nat}{par own:Nat→Nat}{nm:Nat→List (List Nat)}{fr x p a:Nat}{b:List Nat}
theorem zzq(h:CP w0 q u0 l par own nm fr w)(ad:Option Addr)(cap:Nat)(L:List (List Nat))(hA:StrA w ad L)(hAq:0<L.length→∀g o,ad=some ⟨g,o,none⟩→g∉q.blocks):Calls prog 218 #[q,.slice ad L.length cap] w fun e w'=>∃at_ k:Nat,e= .returned (.tuple #[at_,k])∧Kn l nm (lowN L) at_ k∧CP w0 q u0 l par own nm fr w'∧Fr q.blocks w w':=by
 have HFi:=hid (fun W (hW:CP w0 q u0 l par own nm fr W) (a:Nat) (ha:a=0∨a∈l) (b:List Nat) (hb:∀k∈b,k<256)=>zx0 hW ha hb);have HQ:=hid (fun g (hg:g<w.heap.size) (hn:g∉q.blocks) W (hW:Fr q.blocks w W) o v (hc:w.cell? ⟨g,o,none⟩=some v)=>(show W.cell? ⟨g,o,none⟩=some v from(hW.cell (p:=⟨g,o,none⟩) hg hn).trans hc));have HA:=hid hA;have H0:=hid h;have HZ:=hid h.z;have hle:=hA.len;obtain⟨n,hn⟩:∃n,L.length=n:=⟨_,rfl⟩;have HN:=hid hn;rw[hn]at hle⊢;have HAq:=hid hAq;clear h hA hAq hn;go_enter func218,ntmps218;go_wp2_with fail;refine wp_scope_jumps 0 (fun a' w'=>∃(at_ k:Nat) (u2 u3 u8 u9 u10 u11 u12 u13 u14 u15 u16 u17 u18 u19 u20 u21 u22 u23 u24 u25 u26 u27 u28 u29 u30 u31 u32 u33 u34 u35 u36:Value),a'={tmps:= #[.pointer (some ⟨q.m,0,none⟩),.slice ad n cap,u2,u3,.int .i64 0,.int .i64 0,.int .i64 at_,.int .i64 k,u8,u9,u10,u11,u12,u13,u14,u15,u16,u17,u18,u19,u20,u21,u22,u23,u24,u25,u26,u27,u28,u29,u30,u31,u32,u33,u34,u35,u36],defers:= []}∧k≤n∧Hid (at_=0∨at_∈l)∧Hid (nm at_=sfx (lowN L) k)∧Hid (CP w0 q u0 l par own nm fr w')∧Hid (Fr q.blocks w w')) (fun a' _=>n-(intOf (a'.tmps.getD 7 undef)).toNat) rfl ?_ ?_
 ·have HE:=hid (show nm 0=sfx (lowN L) 0 from by rw[HZ.out,zze])
  have HC:=H0;have HF:=hid (Fr.refl q.blocks w);go_wp2_with fail;go_step3;by_cases hlt:0<n
  ·have hL:n-1-0<L.length:=by rw[HN.out];omega
   obtain⟨g,o,rfl,hc,hg⟩:=HA.at_ (n-1-0) hL;have hgd:L[n-1-0]?=some (L[n-1-0]'hL):=List.getElem?_eq_getElem hL;rw[hgd]at hc;simp only[Option.getD_some]at hc;have hs:=HA.lt _ (List.getElem_mem hL)
   have HSX:=hid (show sfx (lowN L) (0+1)=(L[n-1-0]'hL).map lowB::sfx (lowN L) 0 from by
    rw[zzh (by rw[zzk,HN.out];exact hlt)];congr 1;simp only[lowN,List.getElem_map,List.length_map,HN.out])
   have hcW:=HQ.out g hg (HAq.out (by omega) g o rfl) w HF.out _ _ hc;generalize L[n-1-0]'hL=s at*;have HFi':=hid (show Calls prog 286 #[q,(0:Int),.string (za0 s)] w _ from HFi.out _ HC.out 0 (.inl rfl) s hs);have HLE:=hid (show 0+1≤(lowN L).length from by rw[zzk,HN.out];exact hlt);have w1:IntKind.i64.wrap ((n:Int)-1)=((n:Int)-1):=i6 _;have w2:IntKind.i64.wrap ((n:Int)-1-(0:Int))=((n-1-0:Nat):Int):=by rw[i6 _];(try omega)
   have w3:IntKind.i64.wrap ((0:Int)+1)=((0+1:Nat):Int):=by rw[i6 _];rfl
   have b1:((0:Int)==(n:Int))=false:=by rw[beq_eq_false_iff_ne];omega
   have b1':(0==n)=false:=by rw[beq_eq_false_iff_ne];omega
   have i0:(0:Int)≤(n:Int)-1:=by omega
   have i1:(n:Int)-1<n:=by omega
   rw[Nat.sub_zero]at hcW;generalize za0 s=S at*;clear hc hgd hs hL;go_wp2_with fail;go_call HFi'.out as e w5 ⟨h5,f5,⟨x,rfl,hx,-,hnx⟩|⟨rfl,hno⟩⟩
   ·have H5:=hid h5
    have F5:=hid (HF.trans f5);have HX:=hid (show x=0∨x∈l from .inr hx);have HNX:=hid (show nm x=sfx (lowN L) (0+1)from by rw[HSX.out,←HE.out];exact hnx);clear h5 f5 hx hnx;go_wp2_with fail;go_step3;exact⟨rfl,x,0+1,_,_,_,_,_,_,_,_,_,_,_,_,_,_,_,_,_,_,_,_,_,_,_,_,_,_,_,_,_,_,_,by first|rfl|(congr 1;go_num),by omega,HX,HNX,H5,F5⟩
   ·have HK:=hid (show Kn l nm (lowN L) 0 0 from⟨Nat.le_trans (Nat.le_succ _) HLE.out,(Or.inl rfl),HE.out,fun _ x hx e=>hno x hx (by rw[e,HSX.out,HE.out])⟩)
    have H5:=hid h5;have F5:=hid (HF.trans f5);clear h5 f5 hno;go_wp2_with fail;try simp only[Exit.jump]
    go_ret2;exact⟨0,0,rfl,HK.out,H5.out,F5.out⟩
  ·obtain rfl:0=n:=by omega
   have HK:=hid (show Kn l nm (lowN L) 0 0 from⟨by rw[zzk,HN.out];exact Nat.le_refl _,(Or.inl rfl),HE.out,fun hlt=>by rw[zzk,HN.out]at hlt;omega⟩);go_wp2_with fail;try simp only[Exit.jump]
   go_ret2;exact⟨0,0,rfl,HK.out,HC.out,HF.out⟩
 ·rintro a' w' ⟨at_,k,u2,u3,u8,u9,u10,u11,u12,u13,u14,u15,u16,u17,u18,u19,u20,u21,u22,u23,u24,u25,u26,u27,u28,u29,u30,u31,u32,u33,u34,u35,u36,rfl,hk,HP,HE,HC,HF⟩
  by_cases hlt:k<n
  ·have hL:n-1-k<L.length:=by rw[HN.out];omega
   obtain⟨g,o,rfl,hc,hg⟩:=HA.at_ (n-1-k) hL;have hgd:L[n-1-k]?=some (L[n-1-k]'hL):=List.getElem?_eq_getElem hL;rw[hgd]at hc;simp only[Option.getD_some]at hc;have hs:=HA.lt _ (List.getElem_mem hL)
   have HSX:=hid (show sfx (lowN L) (k+1)=(L[n-1-k]'hL).map lowB::sfx (lowN L) k from by
    rw[zzh (by rw[zzk,HN.out];exact hlt)];congr 1;simp only[lowN,List.getElem_map,List.length_map,HN.out])
   have hcW:=HQ.out g hg (HAq.out (by omega) g o rfl) w' HF.out _ _ hc;generalize L[n-1-k]'hL=s at*;have HFi':=hid (HFi.out _ HC.out at_ HP.out s hs);have HLE:=hid (show k+1≤(lowN L).length from by rw[zzk,HN.out];exact hlt);have w1:IntKind.i64.wrap ((n:Int)-1)=((n:Int)-1):=i6 _;have w2:IntKind.i64.wrap ((n:Int)-1-(k:Int))=((n-1-k:Nat):Int):=by rw[i6 _];(try omega)
   have w3:IntKind.i64.wrap ((k:Int)+1)=((k+1:Nat):Int):=by rw[i6 _];push_cast;rfl
   have b1:((k:Int)==(n:Int))=false:=by rw[beq_eq_false_iff_ne];omega
   have b1':(k==n)=false:=by rw[beq_eq_false_iff_ne];omega
   have i0:(0:Int)≤((n-1-k:Nat):Int):=by omega
   have i1:((n-1-k:Nat):Int)<n:=by omega
   generalize za0 s=S at*;generalize n-1-k=ix at*;clear hc hgd hs hL;go_wp2_with fail;go_call HFi'.out as e w5 ⟨h5,f5,⟨x,rfl,hx,-,hnx⟩|⟨rfl,hno⟩⟩
   ·have H5:=hid h5
    have F5:=hid (HF.trans f5);have HX:=hid (show x=0∨x∈l from .inr hx);have HNX:=hid (show nm x=sfx (lowN L) (k+1)from by rw[HSX.out,←HE.out];exact hnx);clear h5 f5 hx hnx;go_wp2_with fail;go_step3;exact⟨rfl,⟨x,k+1,_,_,_,_,_,_,_,_,_,_,_,_,_,_,_,_,_,_,_,_,_,_,_,_,_,_,_,_,_,_,_,by first|rfl|(congr 1;go_num),by omega,HX,HNX,H5,F5⟩,by simp[intOf];omega⟩
   ·have HK:=hid (show Kn l nm (lowN L) at_ k from⟨Nat.le_trans (Nat.le_succ _) HLE.out,HP.out,HE.out,fun _ x hx e=>hno x hx (by rw[e,HSX.out,HE.out])⟩)
    have H5:=hid h5;have F5:=hid (HF.trans f5);clear h5 f5 hno;go_wp2_with fail;try simp only[Exit.jump]
    go_ret2;exact⟨at_,k,rfl,HK.out,H5.out,F5.out⟩
  ·obtain rfl:k=n:=by omega
   have HK:=hid (show Kn l nm (lowN L) at_ k from⟨by rw[zzk,HN.out];exact Nat.le_refl _,HP.out,HE.out,fun hlt=>by rw[zzk,HN.out]at hlt;omega⟩);go_wp2_with fail;try simp only[Exit.jump]
   go_ret2;exact⟨at_,k,rfl,HK.out,HC.out,HF.out⟩
end
section
variable{w0 w W W':World}{q:MH}{u0:EW}{l:List Nat}{par refs own:Nat→Nat}{B:Nat→List Nat}{nm:Nat→List (List Nat)}{fr x p a:Nat}{b:List Nat}
theorem zzr(P:World→Prop)(h:∀W',Fr [] W W'→Calls prog 287 #[q,x] W' (zR (0:Int) fun w'=>P w')):Calls prog 220 #[.agg #[q,x]] W (zR (.tuple #[]) fun w'=>P w'):=by
 have H:=hid (h _ ((Fr.refl [] W).alloc (.cells #[q,x] 260)));clear h;go_in;go_wp2_with fail;go_call H.out as e w1 ⟨rfl,h1⟩;go_wp2;go_end0;exact⟨rfl,h1⟩
theorem zzs(P:World→Prop)(h:∀W',Fr [] W W'→Calls prog 137 #[q,x] W' fun e w'=>(∃v,e= .returned v)∧P w'):Calls prog 226 #[.agg #[q,x]] W (zR (.tuple #[]) fun w'=>P w'):=by
 have H:=hid (h _ ((Fr.refl [] W).alloc (.cells #[q,x] 260)));clear h;go_in;go_wp2_with fail;go_call H.out as e w1 ⟨⟨v,rfl⟩,h1⟩;go_wp2;go_end0;exact⟨rfl,h1⟩
theorem zzt(f:Value):Calls prog 219 #[.agg #[q,(0:Int)],f] W (zN (.tuple #[]) W):=by
 have F0:=(Fr.refl [] W).alloc;go_in;go_wp2;go_end0;exact⟨rfl,(F0 _)⟩
theorem zzu(hx:x≠0)(P:World→Prop)(h:∀W',Fr [] W W'→Calls prog 287 #[q,x] W' (zR (0:Int) fun w'=>P w')):Calls prog 219 #[.agg #[q,x],.func (.func 220) #[] #[]] W (zR (.tuple #[]) fun w'=>P w'):=by
 have F0:=(Fr.refl [] W).alloc (.cells #[q,x] 260);have H:=hid (zzr (W:=W.alloc (.cells #[q,x] 260)) P (fun W' hW=>h W' (F0.trans hW)));have bx:((x:Int) !=0)=true:=by simp;omega
 have bx':(x !=0)=true:=by simp;omega
 clear h hx F0;go_in;go_wp2_with fail;go_call H.out as e w1 ⟨rfl,h1⟩;go_wp2;go_end0;exact⟨rfl,h1⟩
theorem zzv(hx:x≠0)(P:World→Prop)(h:∀W',Fr [] W W'→Calls prog 137 #[q,x] W' fun e w'=>(∃v,e= .returned v)∧P w'):Calls prog 219 #[.agg #[q,x],.func (.func 226) #[] #[]] W (zR (.tuple #[]) fun w'=>P w'):=by
 have F0:=(Fr.refl [] W).alloc (.cells #[q,x] 260);have H:=hid (zzs (W:=W.alloc (.cells #[q,x] 260)) P (fun W' hW=>h W' (F0.trans hW)));have bx:((x:Int) !=0)=true:=by simp;omega
 have bx':(x !=0)=true:=by simp;omega
 clear h hx F0;go_in;go_wp2_with fail;go_call H.out as e w1 ⟨rfl,h1⟩;go_wp2;go_end0;exact⟨rfl,h1⟩
def ownP(own:Nat→Nat)(a:Nat):Nat→Nat:=if a=0 then own else up own a (own a+1)
def PinP(w0:World)(q:MH)(u0:EW)(l:List Nat)(par own:Nat→Nat)(nm:Nat→List (List Nat))(fr ck:Nat)(N:List (List Nat))(e:Ending)(w':World):Prop:=
 (ck≠0∧e= .returned (.tuple #[(0:Int),(0:Int),ck])∧CP w0 q u0 l par own nm fr w')∨(ck=0∧ ∃at_ k:Nat,e= .returned (.tuple #[at_,k,(0:Int)])∧Kn l nm N at_ k∧CP w0 q u0 l par (ownP own at_) nm fr w')
theorem zzw(h:CP w0 q u0 l par own nm fr w)(ad:Option Addr)(cap:Nat)(L:List (List Nat))(hA:StrA w ad L)(hAq:0<L.length→∀g o,ad=some ⟨g,o,none⟩→g∉q.blocks)(hb:zzj L≤1099511627776)(ho:∀y,own y≤4000000000):Calls prog 115 #[q,.slice ad L.length cap] w fun e w'=>Fr q.blocks w w'∧PinP w0 q u0 l par own nm fr (chkN L) (lowN L) e w':=by
 have HC:=(show∃a s:Nat,(7≤a)∧Hid (Calls prog 78 #[q] w (zN (cfgV a s) w))from by
  obtain⟨refs,B,⟨S,LL,u,E,B0,g,_⟩,_⟩:=h;have ha:=g.wb.h.m.ok.cfg.a1;exact⟨u.a,u.s,ha,hid (zgy g.wb.h.m)⟩)
 obtain⟨a0,s0,ha0,HC⟩:=HC;have hE:=zpn a0 s0 ha0;have HCk:=hid (fun W (hW:Fr [] w W)=>zzp W ad cap L (hA.fr hW) hb);have HKn:=hid (fun W (hW:Fr [] w W)=>zzq (h.fr0 hW) ad cap L (hA.fr hW) hAq)
 have HU:=hid (fun(at_:Nat) W (hW:CP w0 q u0 l par own nm fr W) (ha:at_=0∨at_∈l)=>(show Calls prog 219 #[.agg #[q,at_],.func (.func 220) #[] #[]] W (zR (.tuple #[]) fun w'=>(CP w0 q u0 l par (ownP own at_) nm fr w'∧Fr q.blocks W w'))from by
  by_cases h0:at_=0
  ·subst h0
   exact(zzt _).mono fun e w' ⟨he,hf⟩=>⟨he,by unfold ownP;rw[if_pos rfl];exact hW.fr0 hf,hf.nil⟩
  ·refine zzu h0 _ (fun W' hf=> ?_)
   refine(zx1 (hW.fr0 hf) (ha.resolve_left h0) (ho _)).mono fun e w' ⟨k1,k2,k3⟩=>⟨k1,?_,hf.nil.trans k3⟩;unfold ownP;rw[if_neg h0];exact k2))
 unfold cfgV at HC;generalize L.length=n at*;generalize hck:chkN L=ck at*;clear hA hAq hck ha0;go_in;go_wp2_with fail;go_call HC.out as e w1 ⟨rfl,f1⟩;clear HC;go_wp2_with fail;go_call HCk.out _ f1 as e w2 ⟨rfl,f2⟩;have F2:=f1.trans f2;clear f2 HCk f1;by_cases hc:ck=0
 ·subst hc
  go_wp2_with fail;go_call HKn.out _ F2 as e w3 ⟨at_,k,rfl,h1,h2,h3⟩;have F3:=F2.nil.trans h3;have HU':=hid (HU.out at_ w3 h2 h1.pl);clear h2 h3 HKn HU;go_wp2_with fail;go_call HU'.out as e w4 ⟨rfl,h4,f4⟩;have F4:=F3.trans f4;clear f4 HU';go_wp2;go_returns;exact⟨F4,.inr ⟨rfl,at_,k,rfl,h1,h4⟩⟩
 ·have b1:((ck:Int) !=0)=true:=by simp;omega
  have b1':(ck !=0)=true:=by simp;omega
  have HCK:=hid hc;clear hc HKn HU;go_wp2;go_returns;exact⟨F2.nil,.inl ⟨HCK.out,rfl,h.fr0 F2⟩⟩
theorem zzx(h:CP w0 q u0 l par own nm fr W)(hx:x∈l)(k:Nat)(ho:own x=k+1):Calls prog 59 #[q,x] W fun e w'=>∃n l1 fr1,e= .returned (.tuple #[(n:Nat),(0:Int)])∧Fr q.blocks W w'∧CP w0 q u0 l1 par (up own x k) nm fr1 w'∧Rem (up own x k) par l l1∧n+l1.length=l.length:=by
 have HL:=hid (zx2 h hx k ho);have hx0:=(h.rng hx).1;have bx:((x:Int)==0)=false:=by simp;omega
 have bx':(x==0)=false:=by simp;omega
 clear h hx ho hx0;go_in;go_wp2_with fail;go_call HL.out as e w1 ⟨n,l1,fr1,rfl,h1⟩;clear HL;go_wp2;go_ret2;exact⟨n,l1,fr1,rfl,h1⟩
theorem zzy:Calls prog 59 #[q,(0:Int)] W (zE (.tuple #[(0:Int),(0:Int)]) W):=by
 go_in;go_wp2;go_ret2;exact⟨rfl,rfl⟩
def ownG(own:Nat→Nat)(x p:Nat):Nat→Nat:=if p=0 then up own x 1 else up (up own x 1) p (own p-1)
theorem zzz(h:CPT w0 q u0 l par own nm x (clsN (16+b.length)) W)(hp:p=0∨(p∈l∧own p≠0))(hb:∀k∈b,k<256)(hk:zuz b=true)(hno:∀y∈l,nm y≠b.map lowB::nm p)(ho:p≠0→own p≤4000000000)(hf:l.length≤224):Calls prog 118 #[q,p,x,.string (za0 b)] W (zR (0:Int) fun w'=>Fr q.blocks W w'∧x∉l∧x≠0∧p≠x∧∃fr,CP w0 q u0 (l++ [x]) (up par x p) (ownG own x p) (up nm x (b.map lowB::nm p)) fr w'):=by
 have hp':p=0∨p∈l:=hp.imp id And.left;have HMk:=hid (zya h hp' hb hk hno ho hf)
 have HNE:=hid (show x∉l∧x≠0 from by
  obtain⟨refs,B,h1,_⟩:=h;exact⟨h1.ne.1,h1.ne.2.1⟩)
 have HPX:=hid (show p≠x from fun e=>by
  rcases hp' with k|k
  ·exact HNE.2 (e.symm.trans k)
  ·exact HNE.1 (e▸k))
 have HHo:=hid (fun W (hW:CPM w0 q u0 l (up par x p) own (up nm x (b.map lowB::nm p)) p x W)=>(show Calls prog 220 #[.agg #[q,x]] W (zR (.tuple #[]) fun w'=>(Fr q.blocks W w'∧∃fr,CP w0 q u0 (l++ [x]) (up par x p) (up own x 1) (up nm x (b.map lowB::nm p)) fr w'))from
  zzr _ (fun W' hf=>(zyb (hW.fr0 hf)).mono fun e w' ⟨k1,k2,k3⟩=>⟨k1,hf.nil.trans k2,k3⟩)))
 have HLe:=hid (fun W (fr:Nat) (hW:CP w0 q u0 (l++ [x]) (up par x p) (up own x 1) (up nm x (b.map lowB::nm p)) fr W)=>(show Calls prog 219 #[.agg #[q,p],.func (.func 226) #[] #[]] W (zR (.tuple #[]) fun w'=>(Fr q.blocks W w'∧∃fr,CP w0 q u0 (l++ [x]) (up par x p) (ownG own x p) (up nm x (b.map lowB::nm p)) fr w'))from by
  unfold ownG;by_cases h0:p=0
  ·subst h0
   rw[if_pos rfl];exact(zzt _).mono fun e w' ⟨he,hf⟩=>⟨he,hf.nil,fr,hW.fr0 hf⟩
  ·rw[if_neg h0]
   obtain⟨hpl,hop⟩:=hp.resolve_left h0;refine zzv h0 _ (fun W' hf=> ?_);refine(zyc (hW.fr0 hf) (List.mem_append_left _ hpl) (own p-1) (by rw[zf2 _ _ HPX.out];omega) ⟨x,List.mem_append_right _ (List.mem_singleton.2 rfl),zf1 _ _ _⟩).mono fun e w' ⟨k1,k2,k3⟩=>⟨⟨_,k1⟩,hf.nil.trans k2,k3⟩))
 generalize za0 b=s at*;clear h hp hp' hb hk hno ho hf;go_in;go_wp2_with fail;go_call HMk.out as e w1 ⟨rfl,f1,h1⟩;have H1:=hid (HHo.out _ h1);clear h1 HMk HHo;go_wp2_with fail;go_call H1.out as e w2 ⟨rfl,f2,fr2,h2⟩;have F2:=f1.trans f2;have H2:=hid (HLe.out _ _ h2);clear f2 h2 f1 H1 HLe;go_wp2_with fail;go_call H2.out as e w3 ⟨rfl,f3,h3⟩;have F3:=F2.trans f3;have H3:=hid h3;clear f3 h3 F2 H2;go_wp2;go_ret;exact⟨rfl,F3,HNE.1,HNE.2,HPX.out,H3.out⟩
end
section
def KeepL(ks:List Nat)(W W':World):Prop:= ∀k∈ks,W'.heap[k]?=W.heap[k]?
theorem KeepL.refl(ks:List Nat)(W:World):KeepL ks W W:=fun _ _=>rfl
theorem KeepL.trans{ks:List Nat}{A B C:World}(h:KeepL ks A B)(k:KeepL ks B C):KeepL ks A C:=fun x hx=>(k x hx).trans (h x hx)
theorem Fr.keepL{S ks:List Nat}{W W':World}(h:Fr S W W')(h1:∀k∈ks,k<W.heap.size∧k∉S):KeepL ks W W':=fun k hk=>h.block k (h1 k hk).1 (h1 k hk).2
def zz0{α:Type}(b:Nat)(ks:List Nat)(I:List α→World→Prop)(Ix:Code→List α→World→Prop)(xs:List α)(W:World):Exit→Act→World→Prop
 | .normal,_,W'=>Keep2 b W W'∧KeepL ks W W'∧I xs W'
 | .ret,_,W'=>Keep2 b W W'∧KeepL ks W W'∧Ix .ret xs W'
 | .exit id,_,W'=>Keep2 b W W'∧KeepL ks W W'∧Ix (.exit id) xs W'
 | .goto t,_,W'=>Keep2 b W W'∧KeepL ks W W'∧Ix (.goto t) xs W'
 | .panic _,_,_=>False
 | .outgrown,_,_=>False
variable{F:Fence}{n:Nat}{P:Program}
def zz3{α:Type}(F:Fence)(n:Nat)(P:Program)(g:Nat)(lb:Array Value)(encs:α→Array Value)(ks:List Nat)(M M0:World→Prop)(Step:World→World→Prop)(Ok:List α→α→Prop)(S Sp:List α→Prop):Prop:=
 ∀(l:Nat) (J Jx:List α→World→Prop) (W:World),(∀s A,J s A→M A)→(∀s A B,J s A→Step A B→J s B)→(∀s A B,Jx s A→Step A B→Jx s B)→
  (∀pre x A,Ok pre x→J pre A→YieldAt F (n-1) P l (encs x) A fun e B=>KeepL ks A B∧((e= .returned true∧J (pre++ [x]) B)∨(e= .returned false∧Jx (pre++ [x]) B)))→
  J [] W→M0 W→CallsIn F n P g (#[.func (.yield l) #[] #[]] ++lb) W fun e B=>(∃v,e= .returned v)∧((∃xs,S xs∧J xs B)∨(∃pre,Sp pre∧Jx pre B))
theorem zz4{α:Type}{g:Operand}{ps:Array Tmp}{assign body:Code}{Q:Exit→Act→World→Prop}{a:Act}{w:World}
  (hro:F.round=none) (h1:1≤n) {gf:Nat} {lb:Array Value} (hg:a.eval g= .func (.func gf) #[] lb) (hFg:F.fn gf) (eg: ∀args w,(callFunc gf args).run P w= .ok (.enter gf args) w)
  {encs:α→Array Value} {ks:List Nat} {M M0:World→Prop} {Step:World→World→Prop} {Ok:List α→α→Prop} {S Sp:List α→Prop} (hseq:zz3 F (n-1) P gf lb encs ks M M0 Step Ok S Sp) (hps: ∀x,(encs x).size=ps.size)
  (hks: ∀k∈ks,k<w.heap.size) (hM0: ∀W,Fr [w.heap.size,w.heap.size+1] w W→M0 W)
  (hStep: ∀A B,w.heap.size+1<A.heap.size→M A→Step A B→Keep2 w.heap.size A B∧A.heap.size≤B.heap.size)
  (I:List α→World→Prop) (Ix:Code→List α→World→Prop) (hIM: ∀s A,I s A→M A) (hXM: ∀c s A,Ix c s A→M A)
  (hI: ∀s A B,I s A→Fr [w.heap.size,w.heap.size+1] A B→I s B) (hIx: ∀c s A B,Ix c s A→Fr [w.heap.size,w.heap.size+1] A B→Ix c s B)
  (hIs: ∀s A B,I s A→Step A B→I s B) (hXs: ∀c s A B,Ix c s A→Step A B→Ix c s B) (h0:I [] w)
  (Ax:α→Act→World→Prop) (hAx: ∀x a' A B,Ax x a' A→Fr [w.heap.size,w.heap.size+1] A B→Ax x a' B)
  (hassign: ∀(l:Nat) (pre:List α) (x:α) (W:World) (K:Act→World→Prop),w.heap.size+1<W.heap.size→I pre W→(∀a' W',Keep2 w.heap.size W W'→KeepL ks W W'→I pre W'→Ax x a' W'→K a' W')→
   assign.wpIn (F.inRound l) (n-1-1) P (Exit.then K (fun _ _ _=>False)) {tmps:=(ps.zip (encs x)).foldl (fun t (p,v)=>t.setIfInBounds p v) a.tmps,defers:= []} W)
  (hbody: ∀(l:Nat) (pre:List α) (x:α) (a':Act) (W:World),w.heap.size+1<W.heap.size→Ok pre x→I pre W→Ax x a' W→body.wpIn (F.inRound l) (n-1-1) P (zz0 w.heap.size ks I Ix (pre++ [x]) W) a' W)
  (hdone: ∀(D:Nat) (xs:List α) (W:World),w.heap.size≤D→S xs→I xs W→W.heap[D]?=some (.deferred (some []))→Q .normal {a with defers:={target:= .collected D,args:= #[]}::a.defers} W)
  (hstop: ∀(D:Nat) (c:Code) (pre:List α) (W:World),w.heap.size≤D→Sp pre→Ix c pre W→W.heap[D]?=some (.deferred (some []))→c.wpIn F n P Q {a with defers:={target:= .collected D,args:= #[]}::a.defers} W):
  (Code.rangeFunc g ps assign body).wpIn F n P Q a w:=by
 refine wpIn_rangeFunc fun fn hfn=> ?_
 rw[hro]
 generalize hb:w.heap.size=b at*
 obtain⟨rec,hrec⟩: ∃rec:LoopState→Option Code→Loop,rec=fun st pe=>{state:=st,pending:=pe,fn,tmps:=a.tmps,params:=ps,assign,body,defers:=b}:=⟨_,rfl⟩
 have e0:(Instr.enterLoop fn a.tmps ps assign body none).run P w= .ok (b+1,[{target:= .collected b,args:= #[]}]) ((w.alloc (.deferred (some []))).alloc (.loop (rec .ready none))):=by
  rw[hrec,←hb];exact run_enterLoop_outer _ _ _ _ _
 have hf0:Fr [b,b+1] w ((w.alloc (.deferred (some []))).alloc (.loop (rec .ready none))):=((Fr.refl _ _).alloc _).alloc _
 have hL0:((w.alloc (.deferred (some []))).alloc (.loop (rec .ready none))).heap[b+1]?=some (.loop (rec .ready none)):=by
  have:=World.alloc_heap_new (w.alloc (.deferred (some []))) (.loop (rec .ready none));rwa[World.size_alloc,hb]at this
 have hD0:((w.alloc (.deferred (some []))).alloc (.loop (rec .ready none))).heap[b]?=some (.deferred (some [])):=by
  rw[←hb];exact(Below.heap_alloc _ _ _ (by simp)).trans (World.alloc_heap_new w _)
 generalize(w.alloc (.deferred (some []))).alloc (.loop (rec .ready none))=W1 at*
 have lt_of: ∀{A:World} {o:Obj},A.heap[b+1]?=some o→b+1<A.heap.size:=fun h=>(Array.getElem?_eq_some_iff.1 h).1
 refine⟨b+1,[{target:= .collected b,args:= #[]}],W1,{target:= .fn (.func gf) lb,args:= #[.func (.yield (b+1)) #[] #[]]},W1,gf,#[.func (.yield (b+1)) #[] #[]] ++lb,W1,e0,?_,?_,?_,fun _=>h1,?_⟩
 ·simp only[resolve,hg]
  simp[go_sem]
 ·intro f' hf';simp[Target.leads]at hf';subst hf';exact hFg
 ·simp[invoke,go_sem,eg]
 refine(hseq (b+1)
  (fun s A=>I s A∧A.heap[b+1]?=some (.loop (rec .ready none))∧A.heap[b]?=some (.deferred (some [])))
  (fun s A=> ∃c,Ix c s A∧A.heap[b+1]?=some (.loop (rec .done (some c)))∧A.heap[b]?=some (.deferred (some [])))
  W1 (fun s A h=>hIM s A h.1)
  (fun s A B ⟨hi,hl,hd⟩ hs=>by
   obtain⟨k,_⟩:=hStep A B (lt_of hl) (hIM s A hi) hs
   exact⟨hIs s A B hi hs,k.2.trans hl,k.1.trans hd⟩)
  (fun s A B ⟨c,hi,hl,hd⟩ hs=>by
   obtain⟨k,_⟩:=hStep A B (lt_of hl) (hXM c s A hi) hs
   exact⟨c,hXs c s A B hi hs,k.2.trans hl,k.1.trans hd⟩)
  ?_ ⟨hI _ _ _ h0 hf0,hL0,hD0⟩ (hM0 _ hf0)).mono ?_
 ·rintro pre x A hok ⟨hi,hl,hd⟩
  have hy:=run_yield (P:=P) (args:=encs x) hl (by rw[hrec];exact hps x)
  rw[hrec]at hy
  refine⟨fn,_,assign,body,hy,roundIn_of_wpIn hfn (hassign _ pre x A _ (lt_of hl) hi ?_)⟩
  intro a' A2 k2 kl2 hi2 hax
  have hl2:=k2.2.trans hl
  have hd2:=k2.1.trans hd
  refine⟨_,run_beginRound hl2 (by rw[hrec]),?_⟩
  have fp: ∀(A:World) (o:Obj),Fr [b,b+1] A (A.putObj (b+1) o):=fun A o=>Fr.putObj _ _ (by simp)
  have hl3:(A2.putObj (b+1) (.loop {rec .ready none with state:= .busy})).heap[b+1]?=some (.loop {rec .ready none with state:= .busy}):=World.putObj_heap_same (lt_of hl2)
  have hd3:(A2.putObj (b+1) (.loop {rec .ready none with state:= .busy})).heap[b]?=some (.deferred (some [])):=(World.putObj_heap_other (by omega)).trans hd2
  refine wpIn_mono (hbody _ pre x a' _ (lt_of hl3) hok (hI _ _ _ hi2 (fp _ _)) (hAx _ _ _ _ hax (fp _ _))) ?_
  have kl3:KeepL ks A2 (A2.putObj (b+1) (.loop {rec .ready none with state:= .busy})):=fun k hk=>World.putObj_heap_other (by have:=hks k hk;omega)
  generalize A2.putObj (b+1) (.loop {rec .ready none with state:= .busy})=A3 at*
  have klp: ∀(A:World) (o:Obj),KeepL ks A (A.putObj (b+1) o):=fun A o k hk=>World.putObj_heap_other (by have:=hks k hk;omega)
  have fin: ∀(jump:Option Code) (A4:World),Keep2 b A3 A4→
    (Instr.endRound (b+1) jump).run P A4= .ok (.bool jump.isNone) (A4.putObj (b+1) (.loop (rec (if jump.isNone then .ready else .done) jump)))∧
    (A4.putObj (b+1) (.loop (rec (if jump.isNone then .ready else .done) jump))).heap[b+1]?=some (.loop (rec (if jump.isNone then .ready else .done) jump))∧
    (A4.putObj (b+1) (.loop (rec (if jump.isNone then .ready else .done) jump))).heap[b]?=some (.deferred (some [])):=fun jump A4 k=>by
   have hl4:=k.2.trans hl3
   have hr:=run_endRound (P:=P) jump hl4
   rw[hrec]at hr⊢
   exact⟨hr,World.putObj_heap_same (lt_of hl4),(World.putObj_heap_other (by omega)).trans (k.1.trans hd3)⟩
  rintro e a3 A4 hp
  cases e with
  |normal=>
   obtain⟨k,kl,h⟩:=hp
   obtain⟨r1,r2,r3⟩:=fin none A4 k
   exact⟨_,_,r1,(kl2.trans kl3).trans (kl.trans (klp _ _)),.inl ⟨rfl,hI _ _ _ h (fp _ _),r2,r3⟩⟩
  |ret=>
   obtain⟨k,kl,h⟩:=hp
   obtain⟨r1,r2,r3⟩:=fin (some .ret) A4 k
   exact⟨_,_,r1,(kl2.trans kl3).trans (kl.trans (klp _ _)),.inr ⟨rfl,.ret,hIx _ _ _ _ h (fp _ _),r2,r3⟩⟩
  |exit id=>
   obtain⟨k,kl,h⟩:=hp
   obtain⟨r1,r2,r3⟩:=fin (some (.exit id)) A4 k
   exact⟨_,_,r1,(kl2.trans kl3).trans (kl.trans (klp _ _)),.inr ⟨rfl,.exit id,hIx _ _ _ _ h (fp _ _),r2,r3⟩⟩
  |goto t=>
   obtain⟨k,kl,h⟩:=hp
   obtain⟨r1,r2,r3⟩:=fin (some (.goto t)) A4 k
   exact⟨_,_,r1,(kl2.trans kl3).trans (kl.trans (klp _ _)),.inr ⟨rfl,.goto t,hIx _ _ _ _ h (fp _ _),r2,r3⟩⟩
  |panic ch=>exact hp.elim
  |outgrown=>exact hp.elim
 ·have fp: ∀(A:World) (o:Obj),Fr [b,b+1] A (A.putObj (b+1) o):=fun A o=>Fr.putObj _ _ (by simp)
  rintro e A ⟨⟨v,rfl⟩,⟨xs,hS,hi,hl,hd⟩|⟨pre,hSp,c,hi,hl,hd⟩⟩
  ·have hr:=run_endLoop (P:=P) hl (by rw[hrec];simp)
   rw[hrec]at hr
   exact⟨none,_,hr,hdone b xs _ (Nat.le_refl _) hS (hI _ _ _ hi (fp _ _)) ((World.putObj_heap_other (by omega)).trans hd)⟩
  ·have hr:=run_endLoop (P:=P) hl (by rw[hrec];simp)
   rw[hrec]at hr
   exact⟨some c,_,hr,hstop b c pre _ (Nat.le_refl _) hSp (hIx _ _ _ _ hi (fp _ _)) ((World.putObj_heap_other (by omega)).trans hd)⟩
end
section
open Go.RowKit Go.Shelf
attribute [local go_sem] Oper.semAt_some
section
variable{w0 w W:World}{q:MH}{u0:EW}{l:List Nat}{par refs own:Nat→Nat}{B:Nat→List Nat}{nm:Nat→List (List Nat)}{fr x p a:Nat}
theorem zz5(h:CP w0 q u0 l par own nm fr W):∀(n:Nat) {y:Nat},(y=0∨y∈l)→(nm y).length=n→∃p:List Nat,p.length=n∧p.Nodup∧∀z∈p,z∈l∧(nm z).length≤n
 |0,y,hy,hn=>⟨[],rfl,List.nodup_nil,fun z hz=>(nomatch hz)⟩
 |n+1,y,hy,hn=>by
  have hyl:y∈l:=hy.resolve_left (fun e=>by rw[e,h.z]at hn;simp at hn);obtain⟨refs,B,h1,h2,h3⟩:=h;have e:=h2.s y hyl;rw[e,List.length_cons]at hn;obtain⟨p,p1,p2,p3⟩:=zz5 ⟨refs,B,h1,h2,h3⟩ n (h1.up hyl) (by omega);refine⟨y::p,by simp[p1],List.nodup_cons.2 ⟨fun hm=> ?_,p2⟩,fun z hz=> ?_⟩
  ·have:=(p3 y hm).2
   rw[e,List.length_cons]at this;omega
  ·rcases List.mem_cons.1 hz with e2|hz
   ·rw[e2];exact⟨hyl,by rw[e,List.length_cons];omega⟩
   ·exact⟨(p3 z hz).1,by have:=(p3 z hz).2;omega⟩
theorem CP.nmlen(h:CP w0 q u0 l par own nm fr W){y:Nat}(hy:y=0∨y∈l):(nm y).length≤224:=by
 obtain⟨p,p1,p2,p3⟩:=zz5 h _ hy rfl;have:=zwi p2 (fun z hz=>(p3 z hz).1);have:=h.few;omega
theorem CP.hd(h:CP w0 q u0 l par own nm fr W)(hx:x∈l):∃s,nm x=s::nm (par x)∧(∀k∈s,k<256)∧Calls prog 144 #[q,x] W (zR (.tuple #[.string (za0 s),(0:Int)]) fun w'=>CP w0 q u0 l par own nm fr w'∧Fr q.blocks W w'):=by
 obtain⟨refs,B,h1,h2⟩:=h;refine⟨_,h2.1.s x hx,fun k hk=> ?_,(zxn h1 hx).mono fun e w' ⟨he,g1,g2⟩=>⟨he,⟨refs,B,g1,h2⟩,g2⟩⟩;obtain⟨S,L,u,E,B0,g,ha,hrt,r,hf⟩:=h1;rw[←(r x hx).2.2]at hk;exact(g.wb.ct x ((g.mem x).1 hx).1).lt k hk
theorem c_up(h:CP w0 q u0 l par own nm fr W)(hx:x∈l):Calls prog 303 #[.agg #[q,x]] W (zR (par x) fun w'=>CP w0 q u0 l par own nm fr w'∧Fr q.blocks W w'):=by
 have hpl:par x<1048576:=by
  rcases h.up hx with e|e
  ·omega
  ·exact(h.rng e).2
 obtain⟨refs,B,⟨S,L,u,E,B0,g,ha,hrt,r,hf⟩,h2⟩:=h;have f0:=(Fr.refl [] W).alloc (.cells #[q,x] 260);have hb:=g.wb.ix.e x ((g.mem x).1 hx).1;have ht:=((g.mem x).1 hx).2;have ht2:(E x).tag.toNat=2:=by rw[ht];rfl
 have hh:=hb.h;have hly:=hb.lies;rw[ht2]at hh hly;have hl:=(show Calls prog 230 #[q,x,(4:Int)] (W.alloc (.cells #[q,x] 260)) (zR (.int .u64 (E x).name) fun w'=>IsH w' q u∧Fr q.blocks (W.alloc (.cells #[q,x] 260)) w')from zl2 (g.wb.h.fr0 f0) hh hly 4);rw[(r x hx).1]at hl;have HL:=hid hl
 have HP:=hid (fun w' (k1:IsH w' q u) (k2:Fr q.blocks (W.alloc (.cells #[q,x] 260)) w')=>(show CP w0 q u0 l par own nm fr w'∧Fr q.blocks W w' from
  ⟨⟨refs,B,⟨S,L,u,E,B0,(g.fr0 f0).same k1 k2,ha,hrt,r,hf⟩,h2⟩,f0.nil.trans k2⟩))
 have wp:IntKind.i64.wrap (par x:Int)=par x:=i6 _;generalize par x=px at*;clear hl g ha hrt r hf h2 f0 hb hh hly;go_in;go_wp2_with fail;go_call HL.out as e w1 ⟨rfl,h1,f1⟩;have H1:=HP.out _ h1 f1;clear h1 f1 HP HL;go_wp2;go_ret;exact⟨rfl,H1⟩
theorem cis(h:CP w0 q u0 l par own nm fr w)(hx:x=0∨x∈l):Calls prog 247 #[q,x] w (zR (0:Int) fun w'=>CP w0 q u0 l par own nm fr w'∧Fr q.blocks w w'):=by
 have HC:=(show∃a s:Nat,(7≤a)∧Hid (Calls prog 78 #[q] w (zN (cfgV a s) w))from by
  obtain⟨refs,B,⟨S,LL,u,E,B0,g,_⟩,_⟩:=h;have ha:=g.wb.h.m.ok.cfg.a1;exact⟨u.a,u.s,ha,hid (zgy g.wb.h.m)⟩)
 obtain⟨a0,s0,ha0,HC⟩:=HC;have hE:=zpn a0 s0 ha0;unfold cfgV at HC;by_cases h0:x=0
 ·subst h0
  clear hx ha0;go_in;go_wp2_with fail;go_call HC.out as e w1 ⟨rfl,f1⟩;go_wp2;go_ret;exact⟨rfl,h.fr0 f1,f1.nil⟩
 ·have hxl:=hx.resolve_left h0
  obtain⟨s,-,-,hL⟩:=h.hd hxl;have HL:=hid hL;have bx:((x:Int)==0)=false:=by simp;omega
  have bx':(x==0)=false:=by simp;omega
  generalize za0 s=S at*;clear h hx h0 hxl hL HC ha0 hE;go_in;go_wp2_with fail;go_call HL.out as e w1 ⟨rfl,h1,f1⟩;have H1:=hid (And.intro h1 f1);clear h1 f1;go_wp2;go_ret;exact⟨rfl,H1.out⟩
def ChS(q:MH)(M:World→Prop)(Be:Nat)(A B:World):Prop:=Fr (Be::q.blocks) A B∧M B
theorem zz7(n:Nat)(hn:1≤n)(Be x0:Nat)(hx0:x0=0∨x0∈l)(hBe:Be∉q.blocks)(hBg:∀A,CP w0 q u0 l par own nm fr A→∀C,Fr [Be] A C→CP w0 q u0 l par own nm fr C):zz3 (α:=Nat×List Nat) Fence.wide n prog 302 #[.pointer (some ⟨Be,0,none⟩)] (fun y=> #[.int .i64 y.1,.string (za0 y.2)]) [Be] (fun W=>CP w0 q u0 l par own nm fr W) (fun W=>Blk W Be 260 #[q,x0])
   (ChS q (CP w0 q u0 l par own nm fr) Be) (fun pre y=>∃rest,pre.map (·.2)++y.2::rest=nm x0) (fun xs=>xs.map (·.2)=nm x0) (fun _=>True):=by
 intro lo J Jx W hJM hJS hXS hY h0 hB0;refine callsIn_of_wp func302 rfl trivial ?_ rfl;simp only[ntmps302,List.size_toArray,List.length_cons,List.length_nil,Nat.reduceAdd,Nat.reduceSub,Array.replicate_succ,Array.replicate_zero,List.push_toArray,List.append_toArray,List.nil_append,List.cons_append];have HJM:=hid hJM;have HJS:=hid hJS;have HY:=hid hY;have H0:=hid h0;have HX0:=hid hx0;clear hJM hJS hXS hY h0 hx0;gi_wp2_with fail;gi_loopw [3,4] (fun u v wr=>∃(pre:List (Nat×List Nat)) (x:Nat),Hid (x=0∨x∈l)∧Hid (pre.map (·.2)++nm x=nm x0)∧Hid (J pre wr)∧Hid (Blk wr Be 260 #[q,x])) (fun _ _ wr=>(nm (intOf ((wr.cell? ⟨Be,1,none⟩).getD undef)).toNat).length);case atStart=>exact⟨[],x0,HX0,hid rfl,H0,hB0⟩
 case round=>
  clear HX0 H0 hB0;obtain⟨pre,x,HX,HE,HJ,HB⟩:=hrel;have hM:=HJM.out _ _ HJ.out;have c0:=HB.cell 0;have c1:=HB.cell 1;simp at c0 c1;by_cases h0:x=0
  ·subst h0
   have HD:=hid (show pre.map (·.2)=nm x0 from by have:=HE.out;rwa[hM.z,List.append_nil]at this);clear hM;gi_wp2_with fail;go_end0;exact⟨⟨_,rfl⟩,.inl ⟨pre,HD.out,HJ.out⟩⟩
  ·have hxl:=HX.resolve_left h0
   obtain⟨s,hs,hsb,-⟩:=hM.hd hxl
   have HL:=hid (fun A (hA:CP w0 q u0 l par own nm fr A)=>(show Calls prog 144 #[q,x] A (zR (.tuple #[.string (za0 s),(0:Int)]) fun w'=>CP w0 q u0 l par own nm fr w'∧Fr q.blocks A w')from by
    obtain⟨s',hs',-,hL'⟩:=hA.hd hxl;rw[hs]at hs';injection hs' with e1 e2;rw[e1];exact hL'))
   have HU:=hid (fun A (hA:CP w0 q u0 l par own nm fr A)=>c_up hA hxl);have HUP:=hid (hM.up hxl);have HS:=hid hs;have bx:((x:Int) !=0)=true:=by simp;omega
   have bx':(x !=0)=true:=by simp;omega
   have HYx:=hid (fun A (hA:J pre A)=>HY.out pre (x,s) A ⟨nm (par x),by rw[←HE.out,HS.out]⟩ hA);clear hxl hs hsb h0;gi_wp2_with (first|(refine⟨trivial,?_⟩;gi_at_call 144;refine(callsIn_wide.2 (HL.out _ hM)).mono ?_;rintro e W1 ⟨rfl,h1,f1⟩;have hJ1:=HJS.out _ _ _ HJ.out ⟨f1.mono (fun k hk=> .inl (List.mem_cons_of_mem _ hk)),h1⟩;have HB1:=hid (HB.fr f1 hBe);have HJ1:=hid hJ1;have c0:=HB1.cell 0;have c1:=HB1.cell 1;simp at c0 c1;obtain⟨fn,tmps,assign,body,hy,hR⟩:=HYx.out _ HJ1.out;have HM1:=hid h1;have HEQ:=hid (HB.cell 1);clear h1 f1 hJ1)|fail);refine hR.mono ?_;rintro e W3 ⟨kl,⟨rfl,hJ3⟩|⟨rfl,hJx3⟩⟩
   ·have hB3:Blk W3 Be 260 #[q,x] :=(kl Be (by simp)).trans HB1.out
    have HJ3:=hid hJ3;have c0:=hB3.cell 0;have c1:=hB3.cell 1;simp at c0 c1;have HU3:=hid (HU.out W3 (HJM.out _ _ HJ3.out));clear hJ3 kl hR hy;gi_wp2_with (first|(refine⟨trivial,?_⟩;gi_at_call 303;refine(callsIn_wide.2 HU3.out).mono ?_;rintro e W4 ⟨rfl,h4,f4⟩;have HB4:=hid (hB3.fr f4 hBe);have hf4:=HB4.frozen 1;have c4:=HB4.cell 1;simp at c4;have H4:=hid (And.intro h4 f4);clear h4 f4)|fail);have hfB:Fr [Be] W4 (W4.setCell ⟨Be,1,none⟩ (.int .i64 (par x))):=(Fr.refl [Be] W4).setCell (p:=⟨Be,1,none⟩) (.inl (by simp)) _;have hB5:Blk (W4.setCell ⟨Be,1,none⟩ (.int .i64 (par x))) Be 260 #[.pointer (some ⟨q.m,0,none⟩),.int .i64 (par x)] :=by simpa using HB4.set 1 (.int .i64 (par x))
    have e5:=hB5.cell 1;have e0:=HEQ.out;simp only[gE]at e5 e0;refine⟨⟨pre++ [(x,s)],par x,HUP,hid (by rw[List.map_append,←HE.out,HS.out];simp),hid (HJS.out _ _ _ HJ3.out ⟨(H4.2.mono (fun k hk=> .inl (List.mem_cons_of_mem _ hk))).trans (hfB.mono (fun k hk=> .inl (by simp at hk;subst hk;simp))),hBg _ H4.1 _ hfB⟩),hid hB5⟩,?_⟩;rw[e5,e0];simp only[Option.getD_some,intOf,Int.toNat_natCast];rw[HS.out,List.length_cons];exact Nat.lt_succ_self _
   ·gi_wp2
    refine bodyPost_ret (results_none rfl _ _ _) rfl ?_;exact⟨⟨_,rfl⟩,.inr ⟨_,trivial,hJx3⟩⟩
end
end
section
open Go.RowKit Go.Shelf
attribute [local go_sem] Oper.semAt_some
def strC(l:List (List Nat)):List Value:=l.map fun s=>Value.string (za0 s)
theorem zz8:(prog.info? 9).map (fun i=>(i.zero,i.size,i.bytes))=some (some (.string ⟨#[]⟩),1,16):=by kernel_rfl
theorem zz9{W:World}{base:Nat}{v:Value}{L:List (List Nat)}(h:W.ownsRow base 9 1 v L.length (strC L))(hb:∀s∈L,∀b∈s,b<256)(h63:∀s∈L,s.length≤63):∃ad cap,v= .slice ad L.length cap∧L.length≤cap∧(ad=none→cap=0)∧StrA W ad L∧∀g o,ad=some ⟨g,o,none⟩→base≤g:=by
 obtain⟨_,⟨h2,h3⟩|⟨g,cap,cur,rfl,hg0,hg,r1,r2,r3,r4⟩⟩:=h
 ·refine⟨none,0,by rw[h2,h3],by omega,fun _=>rfl,⟨fun i hi=>by omega,hb,fun s hs=>by have:=h63 s hs;omega,by omega⟩,(fun g o e=>by cases e)⟩
 ·rw[Nat.mul_one]at r4
  refine⟨some ⟨g,0,none⟩,cap,rfl,r1,(fun e=>by cases e),⟨fun i hi=>⟨g,0,rfl,?_,(Array.getElem?_eq_some_iff.1 hg).1⟩,hb,fun s hs=>by have:=h63 s hs;omega,by unfold maxLen at r2;omega⟩,(fun g' o e=>by cases e;exact hg0)⟩;have hc:=Blk.cell (g:=g) (t:=9) (cs:=cur) hg (0+i);rw[hc,Nat.zero_add,←Array.getElem?_toList];have e:(cur.toList.take L.length)[i]?=(strC L)[i]?:=by rw[r4]
  rw[List.getElem?_take_of_lt hi]at e;rw[e];simp[strC,hi]
theorem z0a{s:List Nat}(h:zuz s=true):∀b∈s,b<256:=fun b hb=>by
 unfold zuz at h;simp only[Bool.and_eq_true]at h;have:=List.all_eq_true.1 h.2 b hb;unfold labB at this;simp at this;omega
section
variable{w0 w W:World}{q:MH}{u0:EW}{l:List Nat}{par own:Nat→Nat}{B:Nat→List Nat}{nm:Nat→List (List Nat)}{fr x a:Nat}
theorem z0b(n:Nat)(x:Nat)(w:World):CallsIn Fence.wide n prog 248 #[.agg #[q,x]] w (zR (.func (.func 302) #[] #[.pointer (some ⟨w.heap.size,0,none⟩)]) fun w'=>w'=w.alloc (.cells #[q,x] 260)):=by
 refine callsIn_of_wp func248 rfl trivial ?_ rfl;simp only[ntmps248,List.size_toArray,List.length_cons,List.length_nil,Nat.reduceAdd,Nat.reduceSub,Array.replicate_succ,Array.replicate_zero,List.push_toArray,List.append_toArray,List.nil_append,List.cons_append];gi_wp2;go_ret;exact⟨rfl,rfl⟩
theorem z0c(n:Nat)(ad:Option Addr)(k cap:Nat)(w:World)(hk:k≤cap)(ha:ad=none→cap=0):CallsIn Fence.wide n prog 249 #[.slice ad k cap] w (zE (.slice ad k k) w):=by
 have c1:(k:Int)≤cap:=by omega
 have c0:(0:Int)≤k:=by omega
 refine callsIn_of_wp func249 rfl trivial ?_ rfl;simp only[ntmps249,List.size_toArray,List.length_cons,List.length_nil,Nat.reduceAdd,Nat.reduceSub,Array.replicate_succ,Array.replicate_zero,List.push_toArray,List.append_toArray,List.nil_append,List.cons_append];gi_wp2;go_ret;exact⟨rfl,rfl⟩
theorem z0d(n:Nat)(hn:4≤n)(h:CP w0 q u0 l par own nm fr w)(hx:x=0∨x∈l):CallsIn Fence.wide n prog 139 #[.pointer (some ⟨q.m,0,none⟩),.int .i64 x] w fun e w'=> ∃ad,e= .returned (.tuple #[.slice ad (nm x).length (nm x).length,(0:Int)])∧StrA w' ad (nm x)∧(∀g o,ad=some ⟨g,o,none⟩→w.heap.size≤g)∧CP w0 q u0 l par own nm fr w'∧Fr q.blocks w w':=by
 have h1:1≤n:=by omega
 obtain⟨i0,hi,hz0,hz1,hz2⟩:=info_parts zz8
 have hnl:=h.nmlen hx
 have HI:=hid (cis h hx)
 have HX:=hid hx
 clear h hx
 refine callsIn_of_wp_marks func139 rfl trivial ?_ rfl
 simp only[ntmps139,List.size_toArray,List.length_cons,List.length_nil,Nat.reduceAdd,Nat.reduceSub,Array.replicate_succ,Array.replicate_zero,List.push_toArray,List.append_toArray,List.nil_append,List.cons_append]
 gi_wp2_with (first|(refine⟨trivial,?_⟩;gi_at_call 247;refine(callsIn_wide.2 HI.out).mono ?_;rintro e w1 ⟨rfl,h1',f1'⟩;have H1:=hid h1';have F1:=hid f1';clear h1' f1')|(refine⟨trivial,?_⟩;gi_at_call 248;refine(z0b _ _ _).mono ?_;rintro e w' ⟨rfl,rfl⟩)|fail)
 obtain⟨W0,hW0⟩: ∃W0,((w1.alloc (.cells #[.slice none 0 0] 31)).alloc (.cells #[q,x] 260))=W0:=⟨_,rfl⟩
 have bL:Blk W0 w1.heap.size 31 #[.slice none 0 0] :=by rw[←hW0];exact(Blk.new w1 _ _).alloc _
 have bE:Blk W0 (w1.heap.size+1) 260 #[q,x] :=by
  rw[←hW0]
  have:=Blk.new (w1.alloc (.cells #[.slice none 0 0] 31)) 260 #[.pointer (some ⟨q.m,0,none⟩),.int .i64 x]
  rwa[World.size_alloc]at this
 have f0:Fr [] w1 W0:=by rw[←hW0];exact((Fr.refl _ w1).alloc _).alloc _
 have hz:W0.heap.size=w1.heap.size+2:=by rw[←hW0];simp
 have hT0:=H1.fr0 f0
 have OK1:=H1.bok
 have hwl:w.heap.size≤w1.heap.size:=F1.size
 have fr0':Fr q.blocks w W0:=F1.trans f0.nil
 rw[hW0]
 clear hW0 f0 H1 F1
 generalize hLL:w1.heap.size=Lb at*
 have HLL:=hid hLL
 have hq: ∀k,Lb≤k→k∉q.blocks:=fun k hk hm=>by have:=OK1.q k hm;omega
 have hnb: ∀k,k<W0.heap.size→k∉ [W0.heap.size,W0.heap.size+1] :=fun k hk hm=>by simp at hm;omega
 have hmem: ∀k∈ [W0.heap.size,W0.heap.size+1],k∈q.blocks∨w.heap.size≤k:=fun k hk=>by simp at hk;exact .inr (by omega)
 have hEM: ∀A B S,CP w0 q u0 l par own nm fr A→Fr S A B→(∀k∈S,Lb≤k)→CP w0 q u0 l par own nm fr B:=fun A B S hM hf hS=>hM.frL OK1 hf hS
 refine zz4 rfl h1 (gf:=302) (lb:= #[.pointer (some ⟨Lb+1,0,none⟩)]) rfl trivial (enters_of func302 (by kernel_rfl) rfl)
  (zz7 (n-1) (by omega) (Lb+1) x HX.out (hq _ (by omega)) (fun A hA C hC=>hEM A C _ hA hC (fun k hk=>by simp at hk;omega))) (fun _=>rfl)
  (fun k hk=>by simp at hk;omega) (fun W hf=>bE.fr hf (hnb _ (by omega)))
  (fun A B hA hM hs=>⟨hs.1.keep2 hA ⟨fun hm=>by rcases List.mem_cons.1 hm with e|hm;omega;exact hq _ (by omega) hm,fun hm=>by rcases List.mem_cons.1 hm with e|hm;omega;exact hq _ (by omega) hm⟩,hs.1.size⟩)
  (fun pre W=>CP w0 q u0 l par own nm fr W∧Fr q.blocks w W∧ ∃v,Blk W Lb 31 #[v] ∧W.ownsRow Lb 9 1 v pre.length (strC (pre.map (·.2)))∧ ∀g,v.ownBlock=some g→W0.heap.size+1<g)
  (fun _ _ _=>False)
  (fun s A hh=>hh.1) (fun cd s A hh=>hh.elim)
  ?hI (fun cd s A B hh _=>hh.elim) ?hIs (fun cd s A B hh _=>hh.elim) ⟨hT0,fr0',_,bL,World.ownsRow_nil _ _ _ _,fun g e=>by simp[Value.ownBlock]at e⟩
  (fun y a' W=>a'={tmps:= #[.pointer (some ⟨q.m,0,none⟩),.int .i64 x,undef,undef,.slice none 0 0,.int .i64 0,.int .i64 0,.pointer (some ⟨Lb,0,none⟩),undef,.string (za0 y.2),.pointer (some ⟨q.m,0,none⟩),.int .i64 x,.int .i64 0,.int .i64 0,.bool false,undef,.pointer (some ⟨q.m,0,none⟩),.int .i64 x,.agg #[q,x],.func (.func 302) #[] #[.pointer (some ⟨Lb+1,0,none⟩)],.int .i64 y.1,.string (za0 y.2),undef,undef,undef,undef,undef,undef],defers:= []})
  (fun y a' A B hh _=>hh) ?assign ?body ?done ?stop
 case hI=>exact fun s A B ⟨hM,hF,v,hL,hR,hO⟩ hf=>⟨hEM A B _ hM hf (fun k hk=>by simp at hk;omega),hF.step hf hmem,v,hL.fr hf (hnb _ (by omega)),zhu hR hO hf (fun k hk=>by simp at hk;omega),hO⟩
 case hIs=>
  intro s A B ⟨_,hF,v,hL,hR,hO⟩ hs
  have hm1: ∀k∈(Lb+1)::q.blocks,k=Lb+1∨k<Lb:=fun k hk=>by
   rcases List.mem_cons.1 hk with e|hk
   ·exact .inl e
   ·exact .inr (OK1.q k hk)
  refine⟨hs.2,hF.step hs.1 (fun k hk=> ?_),v,hL.fr hs.1 (fun hm=>by have:=hm1 _ hm;omega),zhu hR hO hs.1 (fun k hk=>by have:=hm1 k hk;omega),hO⟩
  rcases List.mem_cons.1 hk with e|hk
  ·exact .inr (by omega)
  ·exact .inl hk
 case assign=>
  rintro lo pre y W K hW hi hK
  gi_wp2
  exact hK _ _ (Keep2.refl _ _) (KeepL.refl _ _) hi rfl
 case body=>
  rintro lo pre y a' W hW ⟨rest,hpr⟩ ⟨hM,hF,v,hL,hR,hO⟩ rfl
  have hc1:=hL.cell 0
  have hf1:=hL.frozen 0
  simp at hc1
  have hpl:pre.length+1≤1048576:=by
   have:=congrArg List.length hpr
   rw[List.length_append,List.length_map,List.length_cons]at this
   omega
  have hbw:Lb≤W.heap.size:=by omega
  have HO:=hid hO
  clear hO hpr bL bE fr0' hT0
  have HKEY:=hid (fun(o:Oper) (a:Act) (ops:Array Oper) (rest:List Oper) (Q:Exit→Act→World→Prop) (h0:o.guard=none) (s x:Operand) (h3:o.op= .call {callee:= .builtin .append,args:= #[s,x],argTypes:= #[31,31]}) (h4:a.eval s=v) (h5:a.eval x= .slice (some ⟨W.heap.size,0,none⟩) 1 1)=>
   wpListIn_append_own_at (F:=Fence.wide.inRound lo) (nF:=n-1-1) (P:=prog) (ops:=ops) (rest:=rest) (Q:=Q) (w:=W.alloc (.cells #[.string (za0 y.2)] 9)) h0 s x 31 h3 Lb 9 i0 (.string ⟨#[]⟩) 1 16 underlying31 hi hz0 hz1 hz2 rfl (by decide) v _ _ h4 (hR.alloc _) ⟨W.heap.size,0,none⟩ 1 1 [.string (za0 y.2)] h5 rfl (zhx _ _ _) (by simp[Value.oneCell']) (by unfold maxLen;omega) (by omega) (by simp;omega))
  clear hi
  gi_wp2_with (gi_at_builtin;refine HKEY.out _ _ _ _ _ rfl _ _ rfl rfl rfl ?_;intro v' w1 hown' hgrow _ hob;obtain⟨g',cap',rfl⟩:=ownsRow_succ hown';have hfg:=zhw hgrow;have hL1:=hL.fr hfg (fun hm=>by have:=HO.out Lb (zhv hm);omega);have hc1:w1.cell? ⟨Lb,0,none⟩=some v:=hL1.cell 0;have hf1:=hL1.frozen 0)
  have hNL:Lb<W0.heap.size:=by omega
  have hfW:Fr (Lb::ownS v) W (w1.setCell ⟨Lb,0,none⟩ (.slice (some ⟨g',0,none⟩) (pre.length+1) cap')):=(hfg.mono (S':=Lb::ownS v) (fun k hk=> .inl (List.mem_cons_of_mem _ hk))).setCell (.inl (by simp)) _
  have hSm: ∀k∈Lb::ownS v,k=Lb∨W0.heap.size+1<k:=fun k hk=>by
   rcases List.mem_cons.1 hk with rfl|hk
   ·exact .inl rfl
   ·exact .inr (HO.out k (zhv hk))
  refine⟨hfW.keep2 hW ⟨fun hm=>by have:=hSm _ hm;omega,fun hm=>by have:=hSm _ hm;omega⟩,hfW.keepL (fun k hk=>by simp at hk;subst hk;exact⟨by omega,fun hm=>by have:=hSm _ hm;omega⟩),hEM W _ _ hM hfW (fun k hk=>by have:=hSm k hk;omega),hF.step hfW (fun k hk=>by have:=hSm k hk;exact .inr (by omega)),_,by simpa using hL1.set 0 (.slice (some ⟨g',0,none⟩) (pre.length+1) cap'),?_,fun g hg=> ?_⟩
  ·have:=zeb hown' hL1 (by decide) 0 (.slice (some ⟨g',0,none⟩) (pre.length+1) cap')
   rw[List.length_append,List.length_singleton]
   have e:strC ((pre++ [y]).map (·.2))=strC (pre.map (·.2))++ [.string (za0 y.2)] :=by simp[strC]
   rw[e]
   exact this
  ·rcases hob with h|h
   ·rw[hg]at h;exact HO.out g h.symm
   ·rw[hg]at h
    injection h with h
    rw[h,World.size_alloc]
    omega
 case done=>
  rintro D xs W hD hxs ⟨hM,hF,v,hL,hR,hO⟩ hK
  have hc1:=hL.cell 0
  simp at hc1
  have hlab:=fun s (hs:s∈nm x)=>(show zuz s=true from by
   rcases HX.out with e|hx
   ·rw[e,hM.z]at hs;cases hs
   ·exact(hM.lab hx s hs).1)
  have hxl:xs.length=(nm x).length:=by rw[←hxs,List.length_map]
  rw[hxs,hxl]at hR
  have hfp:Fr [D] W (W.putObj D (.deferred none)):=Fr.putObj _ _ (by simp)
  have hR2:=(ownsRow_putObj hR (.deferred none) hK rfl)
  obtain⟨ad,cap,rfl,k1,k2,k3,k4⟩:=zz9 hR2 (fun s hs=>z0a (hlab s hs)) (fun s hs=>(zwy (hlab s hs)).2)
  have HE:=hid (show StrA (W.putObj D (.deferred none)) ad (nm x)∧(∀g o,ad=some ⟨g,o,none⟩→w.heap.size≤g)∧CP w0 q u0 l par own nm fr (W.putObj D (.deferred none))∧Fr q.blocks w (W.putObj D (.deferred none))from
   ⟨k3,fun g o e=>Nat.le_trans hwl (k4 g o e),hEM _ _ _ hM hfp (fun k hk=>by simp at hk;subst hk;omega),hF.step hfp (fun k hk=>by simp at hk;subst hk;exact .inr (by omega))⟩)
  generalize hnn:(nm x).length=nn at*
  have HNN:=hid hnn
  clear hnn hlab hxs hxl hR hR2 k3 k4 hfp hM hF hL hO
  gi_wp2_with (first|(refine⟨trivial,?_⟩;gi_at_call 249;refine(z0c _ _ _ _ _ k1 k2).mono ?_;rintro e w' ⟨rfl,he⟩;rw[he];clear he)|fail)
  refine⟨by simp,.inl ⟨_,_,rfl,run_takeDeferred (w:=W) hK,?_⟩⟩
  refine⟨_,results_tmp2 rfl _ _ _,ad,?_,HE.out⟩
  rw[HNN.out]
  rfl
 case stop=>
  rintro D cd pre W hD _ hh hK
  exact hh.elim
theorem z0e(h:CP w0 q u0 l par own nm fr w)(hx:x=0∨x∈l):Calls prog 139 #[q,x] w fun e w'=>∃ad,e= .returned (.tuple #[.slice ad (nm x).length (nm x).length,(0:Int)])∧StrA w' ad (nm x)∧(∀g o,ad=some ⟨g,o,none⟩→w.heap.size≤g)∧CP w0 q u0 l par own nm fr w'∧Fr q.blocks w w':=
 callsIn_wide.1 (z0d 4 (Nat.le_refl _) h hx)
end
end
end Go.Proofs.YtghllbkjghnmhaaGreatDoor
