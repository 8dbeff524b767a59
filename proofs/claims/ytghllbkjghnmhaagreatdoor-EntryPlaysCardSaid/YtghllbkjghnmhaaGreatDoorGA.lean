/- Several texts in one. -/
import Derived.Lib.Hide
import Derived.Deep.OwnRows
import Derived.BigQuiet
import Derived.Handy
import Derived.Deep.AppendLies
import Derived.RangeFuncNested
import Derived.Deep.Fields
import Derived.Test.YtghllbkjghnmhaaGreatDoorRows
import Derived.ShutString
import Derived.Lib.MinMax
import Derived.Deep.RegionHeld3
import Derived.WalkSpells
import Derived.WalkLawsBesides
import Derived.StillTailTactics
namespace Go.Proofs.YtghllbkjghnmhaaGreatDoor
open _root_.Go.Proofs.Tryz
open Go.Lib (hid)
open Go.IntWalk (i64_in)
set_option linter.unusedVariables false
set_option linter.unusedSimpArgs false
open Go.RowKit
set_option maxRecDepth 100000
set_option maxHeartbeats 4000000
def Blk(w:World)(g:Nat)(t:TypeId)(cs:Array Value):Prop:=w.heap[g]?=some (.cells cs t (0,0))
structure Fr(S:List Nat)(w w':World):Prop where
 os:w'.os=w.os
 tape:w'.tape=w.tape
 output:w'.output=w.output
 size:w.heap.size≤w'.heap.size
 block: ∀k,k<w.heap.size→k∉S→w'.heap[k]?=w.heap[k]?
section
variable{w w' w'':World}{g:Nat}{t:TypeId}{cs:Array Value}{S S':List Nat}
theorem Blk.lt(h:Blk w g t cs):g<w.heap.size:=by
 rcases Nat.lt_or_ge g w.heap.size with hlt|hge
 ·exact hlt
 ·unfold Blk at h;rw[Array.getElem?_eq_none hge]at h;cases h
theorem Blk.cell(h:Blk w g t cs)(i:Nat):w.cell? ⟨g,i,none⟩=cs[i]?:=cell_of_row w g i cs t (0,0) h
theorem Blk.frozen(h:Blk w g t cs)(i:Nat):w.frozen? ⟨g,i,none⟩=false:=by
 unfold Blk at h;simp[World.frozen?,h]
theorem Blk.new(w:World)(t:TypeId)(cs:Array Value):Blk (w.alloc (.cells cs t)) w.heap.size t cs:=heap_alloc_new w _
theorem Blk.drew(h:Blk w g t cs):Blk w.drew g t cs:=h
theorem Blk.alloc(h:Blk w g t cs)(o:Obj):Blk (w.alloc o) g t cs:=(Below.heap_alloc w o g h.lt).trans h
theorem Blk.set(h:Blk w g t cs)(i:Nat)(u:Value):Blk (w.setCell ⟨g,i,none⟩ u) g t (cs.setIfInBounds i u):=by
 unfold Blk at h⊢;simp[World.setCell,Array.getElem?_modify,h]
theorem Blk.far(h:Blk w g t cs){p:Addr}(hp:g≠p.block)(u:Value):Blk (w.setCell p u) g t cs:=(Below.heap_setCell w p u g hp).trans h
theorem Blk.below{B:Nat}(h:Blk w g t cs)(hb:Below B w w')(hg:g<B):Blk w' g t cs:=(hb.block g hg).trans h
theorem Blk.fr(h:Blk w g t cs)(hf:Fr S w w')(hg:g∉S):Blk w' g t cs:=(hf.block g h.lt hg).trans h
theorem Blk.ne_{g':Nat}{t':TypeId}{cs':Array Value}(h:Blk w g t cs)(h':Blk w g' t' cs')(hne:t≠t'):g≠g':=by
 rintro rfl;unfold Blk at h h';rw[h]at h';injection h' with h';injection h' with _ ht;exact hne ht
theorem dT(p:Prop)[Decidable p](h:p:=by omega):decide p=true:=decide_eq_true h
theorem dF(p:Prop)[Decidable p](h:¬p:=by omega):decide p=false:=decide_eq_false h
theorem i6(n:Int)(h: -9223372036854775808≤n∧n≤9223372036854775807:=by omega):IntKind.i64.wrap n=n:=IntWalk.i64_in n h
instance ziI:Coe Int Value:=⟨fun x=> .int .i64 x⟩
instance ziN:Coe Nat Value:=⟨fun x=> .int .i64 (x:Int)⟩
instance ziB:Coe Bool Value:=⟨fun x=> .bool x⟩
instance ziP (g:Nat):CoeDep (Option Nat) (some g) Value:=⟨.pointer (some ⟨g,0,none⟩)⟩
abbrev zR(v:Value)(P:World→Prop)(e:Ending)(w:World):Prop:=e= .returned v∧P w
abbrev zE(v:Value)(w':World)(e:Ending)(w:World):Prop:=e= .returned v∧w=w'
theorem gE:(∀{α:Type} (l:List α) (i:Nat),l.toArray[i]?=l[i]?)∧(∀{α:Type} (a:α) (l:List α),(a::l)[0]?=some a)∧∀{α:Type} (a:α) (l:List α) (i:Nat),(a::l)[i+1]?=l[i]?:=⟨fun _ _=>List.getElem?_toArray ..,fun _ _=>List.getElem?_cons_zero,fun _ _ _=>List.getElem?_cons_succ⟩
abbrev zN(v:Value)(w':World)(e:Ending)(w:World):Prop:=e= .returned v∧Fr [] w' w
theorem gP:(∀(a:Act) (t:Nat) (v:Value),a.put t v={a with tmps:=a.tmps.setIfInBounds t v})∧(∀{α:Type} {xs:List α} {i:Nat} (h:i<xs.toArray.size),xs.toArray[i] =xs[i]'(by simpa using h))∧(∀{α:Type} {a:α} {bs:List α} {i:Nat} {h:i+1<(a::bs).length},(a::bs)[i+1] =bs[i]'(by simpa using h))∧(∀{α:Type} {l:List α} {i:Nat} {a:α},l.toArray.setIfInBounds i a=(l.set i a).toArray)∧(∀{α:Type} {x:α} {xs:List α} {b:α},(x::xs).set 0 b=b::xs)∧∀{α:Type} {x:α} {xs:List α} {n:Nat} {b:α},(x::xs).set (n+1) b=x::xs.set n b:=⟨fun _ _ _=>rfl,fun _=>rfl,rfl,by intros;simp,rfl,rfl⟩
theorem Fr.refl(S:List Nat)(w:World):Fr S w w:=⟨rfl,rfl,rfl,Nat.le_refl _,fun _ _ _=>rfl⟩
theorem Fr.trans(h:Fr S w w')(k:Fr S w' w''):Fr S w w'':=
 ⟨k.os.trans h.os,k.tape.trans h.tape,k.output.trans h.output,Nat.le_trans h.size k.size,fun i hi hn=>(k.block i (Nat.lt_of_lt_of_le hi h.size) hn).trans (h.block i hi hn)⟩
theorem Fr.mono(h:Fr S w w')(hs:∀k∈S,k∈S'∨w.heap.size≤k):Fr S' w w':=
 ⟨h.os,h.tape,h.output,h.size,fun i hi hn=>h.block i hi (fun hm=>(hs i hm).elim hn (fun h=>by omega))⟩
theorem Fr.drew(h:Fr S w w'):Fr S w w'.drew:=⟨h.os,h.tape,h.output,h.size,h.block⟩
theorem Fr.drewN(h:Fr S w w')(n:Nat):Fr S w (w'.drewN n):=⟨h.os,h.tape,h.output,h.size,h.block⟩
theorem Fr.alloc(h:Fr S w w')(o:Obj):Fr S w (w'.alloc o):=
 ⟨h.os,h.tape,h.output,Nat.le_trans h.size (by simp),fun i hi hn=>(Below.heap_alloc w' o i (Nat.lt_of_lt_of_le hi h.size)).trans (h.block i hi hn)⟩
theorem Fr.setCell(h:Fr S w w'){p:Addr}(hp:p.block∈S∨w.heap.size≤p.block)(u:Value):Fr S w (w'.setCell p u):=
 ⟨h.os,h.tape,h.output,by simpa[World.setCell]using h.size,fun i hi hn=>(Below.heap_setCell w' p u i (by
  rintro rfl;rcases hp with hp|hp
  ·exact hn hp
  ·omega)).trans (h.block i hi hn)⟩
theorem Fr.below{B:Nat}(h:Fr S w w')(hB:B≤w.heap.size)(hs:∀k∈S,B≤k):Below B w w':=
 ⟨h.os,h.tape,h.output,h.size,fun k hk=>h.block k (by omega) (fun hm=>by have:=hs k hm;omega)⟩
theorem Fr.of_below(h:Below w.heap.size w w'):Fr S w w':=⟨h.os,h.tape,h.output,h.size,fun k hk _=>h.block k hk⟩
theorem Fr.step(h:Fr S w w')(k:Fr S' w' w'')(hs:∀x∈S',x∈S∨w.heap.size≤x):Fr S w w'':=
 ⟨k.os.trans h.os,k.tape.trans h.tape,k.output.trans h.output,Nat.le_trans h.size k.size,fun i hi hn=>(k.block i (Nat.lt_of_lt_of_le hi h.size) (fun hm=>(hs i hm).elim hn (fun h=>by omega))).trans (h.block i hi hn)⟩
theorem Fr.cell(h:Fr S w w'){p:Addr}(hp:p.block<w.heap.size)(hn:p.block∉S):w'.cell? p=w.cell? p:=World.cell?_of_block (w:=w) (h.block p.block hp hn)
end
def bytes(l:List Nat):Array Value:=(l.map fun k:Nat=>Value.int .u8 (k:Int)).toArray
theorem zaa(l:List Nat):(bytes l).size=l.length:=by simp[bytes]
theorem bytes_get(l:List Nat)(i:Nat)(h:i<l.length):(bytes l)[i]?=some (.int .u8 ((l[i]?.getD 0:Nat):Int)):=by
 simp[bytes,h]
theorem zab(l:List Nat)(i k:Nat):(bytes l).setIfInBounds i (.int .u8 (k:Int))=bytes (l.set i k):=by
 simp[bytes,List.map_set]
theorem zac(n k:Nat):bytes (List.replicate n k)=Array.replicate n (.int .u8 (k:Int)):=by
 simp[bytes]
theorem zad(n:Nat):madeCells #[.int .u8 0] n=bytes (List.replicate n 0):=by
 rw[zac];apply Array.ext
 ·simp[madeCells]
 ·intro i h1 h2
  simp[madeCells,Nat.mod_one]
theorem zae{P:Program}(t e:TypeId)(ht:P.underlying t=some (.slice e))(hinfo:(P.info? e).map (fun i=>(i.zero,i.size,i.bytes))=some (some (.int .u8 0),1,1))
  (kl kc:IntKind) (n:Nat) (h:n≤1099511627776) (w:World):
  (Instr.makeSlice t (.int kl (n:Int)) (.int kc (n:Int))).run P w= .ok (.slice (some ⟨w.heap.size,0,none⟩) n n) (w.alloc (.cells (bytes (List.replicate n 0)) e)):=by
 rw[←zad];exact run_make_row' t e (.int .u8 0) 1 ht hinfo rfl kl kc n (by omega) (by omega) w
theorem zaf(b:Nat)(k:Nat)(hk:k≠b):∀(vs:List Value) (o:Nat) (w:World),(w.setCells b o vs).heap[k]?=w.heap[k]?
 | [],_,_=>rfl
 |v::vs,o,w=>by
  show((w.setCell ⟨b,o,none⟩ v).setCells b (o+1) vs).heap[k]?=_;rw[zaf b k hk vs];exact Below.heap_setCell _ _ _ _ hk
def laid(cs:Array Value)(o:Nat):List Value→Array Value
 | [] =>cs
 |v::vs=>laid (cs.setIfInBounds o v) (o+1) vs
theorem zag:∀(vs:List Value) (cs:Array Value) (o:Nat),(laid cs o vs).size=cs.size
 | [],_,_=>rfl
 |v::vs,cs,o=>by simp[laid,zag vs]
theorem zah:∀(vs:List Value) (cs:Array Value) (o:Nat) (_:o+vs.length≤cs.size) (i:Nat),(laid cs o vs)[i]?=if o≤i∧i<o+vs.length then vs[i-o]? else cs[i]?
 | [],cs,o,_,i=>by
  have:¬(o≤i∧i<o+([] :List Value).length):=by rw[List.length_nil];omega
  rw[if_neg this];rfl
 |v::vs,cs,o,h,i=>by
  simp only[laid];rw[List.length_cons]at h⊢;rw[zah vs _ _ (by rw[Array.size_setIfInBounds];omega)];by_cases h1:o=i
  ·subst h1
   rw[if_neg (by omega),if_pos (by omega),Nat.sub_self,Array.getElem?_setIfInBounds,if_pos rfl,if_pos (by omega)];rfl
  ·by_cases h2:o+1≤i∧i<o+1+vs.length
   ·rw[if_pos h2,if_pos (by omega),show i-o=(i-(o+1))+1 by omega]
    rfl
   ·rw[if_neg h2,if_neg (by omega),Array.getElem?_setIfInBounds_ne h1]
theorem zai(vs:List Value)(cs:Array Value)(h:vs.length=cs.size):laid cs 0 vs=vs.toArray:=by
 apply Array.ext_getElem?;intro i;rw[zah vs cs 0 (by omega)];by_cases hi:i<vs.length
 ·rw[if_pos (by omega)];simp
 ·rw[if_neg (by omega),Array.getElem?_eq_none (by omega),Array.getElem?_eq_none (by simp;omega)]
theorem Blk.setCells{g:Nat}{t:TypeId}:∀(vs:List Value) (o:Nat) {w:World} {cs:Array Value},Blk w g t cs→Blk (w.setCells g o vs) g t (laid cs o vs)
 | [],_,_,_,h=>h
 |v::vs,o,_,_,h=>Blk.setCells vs (o+1) (h.set o v)
theorem Blk.setCells_far{g b:Nat}{t:TypeId}{w:World}{cs:Array Value}(h:Blk w g t cs)(hb:g≠b)(vs:List Value)(o:Nat):Blk (w.setCells b o vs) g t cs:=
 (zaf b g hb vs o w).trans h
theorem zaj(b:Nat):∀(vs:List Value) (o:Nat) (w:World),(w.setCells b o vs).os=w.os∧(w.setCells b o vs).tape=w.tape∧(w.setCells b o vs).output=w.output∧(w.setCells b o vs).heap.size=w.heap.size
 | [],_,_=>⟨rfl,rfl,rfl,rfl⟩
 |v::vs,o,w=>by
  obtain⟨h1,h2,h3,h4⟩:=zaj b vs (o+1) (w.setCell ⟨b,o,none⟩ v);exact⟨h1,h2,h3,h4.trans (by simp[World.setCell])⟩
theorem Fr.setCells{S:List Nat}{w w':World}(h:Fr S w w'){b:Nat}(hb:b∈S∨w.heap.size≤b)(vs:List Value)(o:Nat):Fr S w (w'.setCells b o vs):=by
 obtain⟨h1,h2,h3,h4⟩:=zaj b vs o w';refine⟨h1.trans h.os,h2.trans h.tape,h3.trans h.output,by rw[h4];exact h.size,fun i hi hn=> ?_⟩;rw[zaf b i (by rintro rfl;rcases hb with hb|hb<;>first|exact hn hb|omega)];exact h.block i hi hn
theorem zak{S:List Nat}{w:World}:Fr S w w.drew:=(Fr.refl _ _).drew
theorem zal{P:Program}{f:FuncId}{args:Array Value}{w:World}{n:Nat}{v:Value}
  (h:Calls P f args (w.drewN n) (zR v fun w'=>w.drewN n=w')):Calls P f args (w.drewN n) fun e w''=>e= .returned v∧∃m,w''=w.drewN m:=
 h.mono fun _ _ ⟨he,hm⟩=>⟨he,n,hm.symm⟩
theorem zam{p q:Prop}[Decidable p][Decidable q](h:p↔q):Ending.returned (.bool (decide p))= .returned (.bool (decide q)):=by simp[h]
theorem zan{q:Prop}[Decidable q](h:¬q):Ending.returned false= .returned (.bool (decide q)):=by simp[h]
theorem zao{k:IntKind}{a b:Int}(h:a=b):Ending.returned (.int k a)= .returned (.int k b):=by rw[h]
def zap(l:List Nat)(a v:Nat):Nat→List Nat
 |0=>l
 |i+1=>(zap l a v i).set (a+i) (v/256^i %256)
def ldTo(l:List Nat)(a:Nat):Nat→Nat
 |0=>0
 |i+1=>ldTo l a i+l[a+i]?.getD 0*256^i
theorem zaq(l:List Nat)(a v:Nat):∀n,(zap l a v n).length=l.length
 |0=>rfl
 |n+1=>by rw[zap,List.length_set,zaq l a v n]
theorem zar(l:List Nat)(a v:Nat):∀n,a+n≤l.length→∀i,(zap l a v n)[i]?.getD 0=if a≤i∧i<a+n then v/256^(i-a) %256 else l[i]?.getD 0
 |0,_,i=>by rw[if_neg (by omega)];rfl
 |n+1,h,i=>by
  rw[zap,List.getElem?_set];by_cases e:a+n=i
  ·subst e
   rw[if_pos rfl,if_pos (by rw[zaq];omega),if_pos (by omega),show a+n-a=n by omega];rfl
  ·rw[if_neg e,zar l a v n (by omega) i]
   by_cases c:a≤i∧i<a+n
   ·rw[if_pos c,if_pos (by omega)]
   ·rw[if_neg c,if_neg (by omega)]
theorem zas(l:List Nat)(hl:∀b∈l,b<256)(a:Nat):∀n,ldTo l a n<256^n
 |0=>by simp[ldTo]
 |n+1=>by
  have h1:=zas l hl a n
  have h2:l[a+n]?.getD 0≤255:=by
   rcases h:l[a+n]? with _|b
   ·simp
   ·have:=hl b (List.mem_of_getElem? h)
    simp;omega
  rw[ldTo,Nat.pow_succ];have h3:l[a+n]?.getD 0*256^n≤255*256^n:=Nat.mul_le_mul_right _ h2;omega
theorem zat(v n:Nat):v %256^(n+1)=v %256^n+v/256^n %256*256^n:=by
 rw[Nat.pow_succ,Nat.mod_mul,Nat.mul_comm (256^n)]
theorem zau(l:List Nat)(a v:Nat):∀n,(∀j,j<n→l[a+j]?.getD 0=v/256^j %256)→ldTo l a n=v %256^n
 |0,_=>by simp[ldTo,Nat.mod_one]
 |n+1,h=>by rw[ldTo,zau l a v n (fun j hj=>h j (by omega)),h n (by omega),zat]
def w64(z:Int):Nat:=(z %18446744073709551616).toNat
theorem zav(z:Int):IntKind.u64.wrap z=(w64 z:Int):=by
 have:IntKind.u64.wrap z=z %18446744073709551616:=rfl;rw[this,w64];omega
theorem zaw(n:Nat)(h:n<18446744073709551616):IntKind.u64.wrap (n:Int)=(n:Int):=by
 have:IntKind.u64.wrap (n:Int)=(n:Int) %18446744073709551616:=rfl;rw[this];omega
theorem zax(n:Nat):IntKind.u32.wrap (n:Int)=((n %4294967296:Nat):Int):=by
 have:IntKind.u32.wrap (n:Int)=(n:Int) %4294967296:=rfl;rw[this];omega
theorem zay(n:Nat):IntKind.u16.wrap (n:Int)=((n %65536:Nat):Int):=by
 have:IntKind.u16.wrap (n:Int)=(n:Int) %65536:=rfl;rw[this];omega
structure Byt(w:World)(a:Option Addr)(l:List Nat):Prop where
 at_: ∀i,i<l.length→ ∃g o,a=some ⟨g,o,none⟩∧w.cell? ⟨g,o+i,none⟩=some (.int .u8 ((l[i]?.getD 0:Nat):Int))∧g<w.heap.size
 byte: ∀b∈l,b<256
 len:l.length≤1099511627776
theorem Byt.fr{w w':World}{a:Option Addr}{l:List Nat}{S:List Nat}(h:Byt w a l)(hf:Fr S w w')(hS:∀g o,a=some ⟨g,o,none⟩→g∉S):Byt w' a l:=
 ⟨fun i hi=>by
  obtain⟨g,o,e,hc,hg⟩:=h.at_ i hi;exact⟨g,o,e,(hf.cell (p:=⟨g,o+i,none⟩) hg (hS g o e)).trans hc,Nat.lt_of_lt_of_le hg hf.size⟩,h.byte,h.len⟩
theorem zaz:(prog.info? 5).map (fun i=>(i.zero,i.size,i.bytes))=some (some (.int .u8 0),1,1):=by kernel_rfl
def za0(l:List Nat):ByteArray:=⟨(l.map UInt8.ofNat).toArray⟩
theorem za1(l:List Nat):(za0 l).toList=l.map UInt8.ofNat:=by
 rw[ByteArray.toList_eq];simp[za0]
theorem za2(l m:List Nat)(hl:∀b∈l,b<256)(hm:∀b∈m,b<256):((za0 l).toList==(za0 m).toList)=(l==m):=by
 rw[za1,za1,Bool.eq_iff_iff,beq_iff_eq,beq_iff_eq];constructor
 ·intro h
  have:=congrArg (List.map UInt8.toNat) h;rw[List.map_map,List.map_map]at this;rw[List.map_congr_left (g:=id) (fun b hb=>by simp[Nat.mod_eq_of_lt (hl b hb)]),List.map_congr_left (l:=m) (g:=id) (fun b hb=>by simp[Nat.mod_eq_of_lt (hm b hb)])]at this;simpa using this
 ·rintro rfl;rfl
theorem za3(w:World)(a:Option Addr)(c:Nat)(l:List Nat)(h:Byt w a l):(convert 49 9 (.slice a l.length c)).run prog w= .ok (.string (za0 l)) w:=by
 have e:za0 l=strOfNums (l.map fun k:Nat=>(k:Int)):=by
  unfold za0 strOfNums;rw[List.map_map];rfl
 rcases l with _|⟨x,l⟩
 ·rcases a with _|⟨g,o,pp⟩
  ·exact run_convert_bytes_nil w _ _ underlying49 underlying5 _ _ _ underlying9
  ·show(convert 49 9 (.slice (some ⟨g,o,pp⟩) 0 c)).run prog w=_
   rw[run_convert_bytes_string w _ _ 5 _ 0 c underlying49 underlying5 underlying9];simp[Conv.bytesToString,loadCells];rfl
 ·obtain⟨g,o,rfl,_⟩:=h.at_ 0 (by simp)
  rw[e];refine run_convert_bytes_arg w _ _ underlying49 underlying5 g o _ c _ (by simp) (fun i hi=> ?_) _ underlying9;obtain⟨g',o',e',hc',_⟩:=h.at_ i hi;injection e' with e';injection e' with e1 e2;subst e1;subst e2;rw[hc']
  have:((x::l).map fun k:Nat=>(k:Int)).getD i 0=(((x::l)[i]?.getD 0:Nat):Int):=by
   rw[List.getD_eq_getElem?_getD,List.getElem?_map];rcases(x::l)[i]? with _|y<;>rfl
  rw[this]
def RowB(w:World)(g cap:Nat)(l:List Nat):Prop:=
 ∃cur:Array Value,Blk w g 5 cur∧cur.size=cap∧l.length≤cap∧ ∀i,i<l.length→cur[i]?=some (.int .u8 ((l[i]?.getD 0:Nat):Int))
section
variable{w w':World}{g cap:Nat}{l:List Nat}
theorem RowB.of(h:Blk w g 5 (bytes l)):RowB w g l.length l:=⟨_,h,zaa l,Nat.le_refl _,fun i hi=>bytes_get l i hi⟩
theorem RowB.cell(h:RowB w g cap l)(i:Nat)(hi:i<l.length):w.cell? ⟨g,i,none⟩=some (.int .u8 ((l[i]?.getD 0:Nat):Int)):=by
 obtain⟨cur,hb,_,_,hc⟩:=h;rw[hb.cell,hc i hi]
theorem RowB.frozen(h:RowB w g cap l)(i:Nat):w.frozen? ⟨g,i,none⟩=false:=by
 obtain⟨cur,hb,_⟩:=h;exact hb.frozen i
theorem RowB.le(h:RowB w g cap l):l.length≤cap:=by
 obtain⟨cur,_,_,hc,_⟩:=h;exact hc
theorem RowB.lt(h:RowB w g cap l):g<w.heap.size:=by
 obtain⟨cur,hb,_⟩:=h;exact hb.lt
theorem RowB.fr{S:List Nat}(h:RowB w g cap l)(hf:Fr S w w')(hg:g∉S):RowB w' g cap l:=by
 obtain⟨cur,hb,hc⟩:=h;exact⟨cur,hb.fr hf hg,hc⟩
theorem RowB.alloc(h:RowB w g cap l)(o:Obj):RowB (w.alloc o) g cap l:=by
 obtain⟨cur,hb,hc⟩:=h;exact⟨cur,hb.alloc o,hc⟩
theorem RowB.set(h:RowB w g cap l)(i k:Nat)(hi:i<l.length):RowB (w.setCell ⟨g,i,none⟩ (.int .u8 (k:Int))) g cap (l.set i k):=by
 obtain⟨cur,hb,hs,hl,hc⟩:=h;refine⟨_,hb.set i _,by rw[Array.size_setIfInBounds,hs],by rw[List.length_set];exact hl,fun j hj=> ?_⟩;rw[List.length_set]at hj;rw[Array.getElem?_setIfInBounds,List.getElem?_set];by_cases e:i=j
 ·subst e
  rw[if_pos rfl,if_pos rfl,if_pos (by omega),if_pos hi];rfl
 ·rw[if_neg e,if_neg e];exact hc j hj
theorem RowB.byt(h:RowB w g cap l)(hb:∀b∈l,b<256)(hl:l.length≤1099511627776):Byt w (some ⟨g,0,none⟩) l:=
 ⟨fun i hi=>⟨g,0,rfl,by rw[Nat.zero_add];exact h.cell i hi,h.lt⟩,hb,hl⟩
end
structure IsA(w:World)(p g cap:Nat)(l:List Nat):Prop where
 st:Blk w p 212 #[.slice (some ⟨g,0,none⟩) l.length cap]
 row:RowB w g cap l
 byte: ∀b∈l,b<256
 len:l.length≤1048576
theorem IsA.ne{w:World}{p g cap:Nat}{l:List Nat}(h:IsA w p g cap l):p≠g:=by
 obtain⟨cur,hb,_⟩:=h.row;exact h.st.ne_ hb (by decide)
theorem IsA.fr{w w':World}{p g cap:Nat}{l:List Nat}{S:List Nat}(h:IsA w p g cap l)(hf:Fr S w w')(hp:p∉S)(hg:g∉S):IsA w' p g cap l:=
 ⟨h.st.fr hf hp,h.row.fr hf hg,h.byte,h.len⟩
theorem IsA.set{w:World}{p g cap:Nat}{l:List Nat}(h:IsA w p g cap l)(i k:Nat)(hi:i<l.length)(hk:k<256):IsA (w.setCell ⟨g,i,none⟩ (.int .u8 (k:Int))) p g cap (l.set i k):=by
 refine⟨?_,h.row.set i k hi,fun x hx=>(List.mem_or_eq_of_mem_set hx).elim (h.byte x) (fun e=>e▸hk),by rw[List.length_set];exact h.len⟩;rw[List.length_set];exact h.st.far (p:=⟨g,i,none⟩) h.ne _
theorem IsA.byt{w:World}{p g cap:Nat}{l:List Nat}(h:IsA w p g cap l):Byt w (some ⟨g,0,none⟩) l:=h.row.byt h.byte (by have:=h.len;omega)
def widB(w:Int):Bool:=w==1||w==2||w==4||w==8
theorem za4(w:World)(n:Int):Calls prog 258 #[n] w (zE (.bool (widB n)) w):=by
 by_cases h0:0<n
 ·by_cases h1:n≤8
  ·obtain⟨k,rfl⟩:∃k:Nat,n=k:=⟨n.toNat,by omega⟩
   rcases k with _|_|_|_|_|_|_|_|_|k<;>try omega
   all_goals
    go_in;go_wp2;go_ret;exact⟨rfl,rfl⟩
  ·have h4:widB n=false:=by simp[widB];omega
   rw[h4];clear h4;go_in;go_wp2;go_ret;exact⟨rfl,rfl⟩
 ·have h4:widB n=false:=by simp[widB];omega
  rw[h4];clear h4;go_in;go_wp2;go_ret;exact⟨rfl,rfl⟩
theorem za5(w:World)(k:Nat)(n:Int)(hk:0<k)(h0:0≤n):Calls prog 309 #[k,n] w (zE (.bool (n %k==0)) w):=by
 have h1:((k:Int)==0)=false:=by simp;omega
 go_in;go_wp2;go_ret;exact⟨rfl,rfl⟩
def za6(n x w:Int):Nat:=if widB w=false then 2 else if x<0∨n<x∨n-x<w then 6 else if x %w≠0 then 9 else 0
theorem za7{n:Int}(h:widB n=true):∃k:Nat,n=k∧(k=1∨k=2∨k=4∨k=8):=by
 simp[widB]at h;exact⟨n.toNat,by omega,by omega⟩
theorem za8(w:World)(n:Nat)(x wd:Int)(hn:n≤1099511627776):Calls prog 257 #[n,x,wd] w (zE (za6 n x wd) w):=by
 have hw:=fun w=>za4 w wd;unfold za6;rcases hB:widB wd with _|_
 ·rw[if_pos rfl]
  rw[hB]at hw;clear hB;go_in;go_wp2_with (go_at_call 258;refine(hw _).mono ?_;rintro e w' ⟨rfl,rfl⟩);go_ret;exact⟨rfl,rfl⟩
 ·obtain⟨k,rfl,hk⟩:=za7 hB
  have hk0:0<k:=by omega
  rw[hB]at hw;rw[if_neg (by simp)];clear hB;by_cases h0:x<0
  ·rw[if_pos (by omega)]
   go_in;go_wp2_with (go_at_call 258;refine(hw _).mono ?_;rintro e w' ⟨rfl,rfl⟩);go_ret;exact⟨rfl,rfl⟩
  have b0:decide (x<0)=false:=by simpa using h0
  by_cases h1:(n:Int)<x
  ·rw[if_pos (by omega)]
   go_in;go_wp2_with (go_at_call 258;refine(hw _).mono ?_;rintro e w' ⟨rfl,rfl⟩);go_ret;exact⟨rfl,rfl⟩
  have b1:decide ((n:Int)<x)=false:=by simpa using h1
  have hs:=i6 (n-x);by_cases h2:(n:Int)-x<k
  ·rw[if_pos (by omega)]
   go_in;go_wp2_with (go_at_call 258;refine(hw _).mono ?_;rintro e w' ⟨rfl,rfl⟩);go_ret;exact⟨rfl,rfl⟩
  have b2:decide ((n:Int)-x<k)=false:=by simpa using h2
  rw[if_neg (by omega)];have hd:=fun w=>za5 w k x hk0 (by omega);by_cases h3:x %k=0
  ·rw[if_neg (by omega)]
   have b3:(x %k==0)=true:=by simpa using h3
   rw[b3]at hd;clear b3 h3;go_in;go_wp2_with (first|(go_at_call 258;refine(hw _).mono ?_;rintro e w' ⟨rfl,rfl⟩)|(go_at_call 309;refine(hd _).mono ?_;rintro e w' ⟨rfl,rfl⟩));go_ret;exact⟨rfl,rfl⟩
  ·rw[if_pos h3]
   have b3:(x %k==0)=false:=by simpa using h3
   rw[b3]at hd;clear b3 h3;go_in;go_wp2_with (first|(go_at_call 258;refine(hw _).mono ?_;rintro e w' ⟨rfl,rfl⟩)|(go_at_call 309;refine(hd _).mono ?_;rintro e w' ⟨rfl,rfl⟩));go_ret;exact⟨rfl,rfl⟩
def ldV(l:List Nat)(x w:Int):Nat:=if za6 l.length x w=0 then ldTo l x.toNat w.toNat else 0
theorem za9(v b j:Nat)(hj:j<8)(hb:b<256)(hv:v<256^j):bits BinOp.or IntKind.u64 (v:Int) (IntKind.u64.wrap ((b:Int)*2^(8*j)))=((v+b*256^j:Nat):Int):=by
 have hp:(256:Nat)^j=2^(8*j):=by rw[Nat.pow_mul]
 have hp7:(256:Nat)^j≤256^7:=Nat.pow_le_pow_right (by decide) (by omega);have hm:b*256^j≤255*256^7:=Nat.mul_le_mul (by omega) hp7;have e1:((b:Int)*2^(8*j))=((b*256^j:Nat):Int):=by rw[hp];push_cast;rfl
 have e2:IntKind.u64.wrap ((b*256^j:Nat):Int)=((b*256^j:Nat):Int):=by
  have:IntKind.u64.wrap ((b*256^j:Nat):Int)=((b*256^j:Nat):Int) %18446744073709551616:=rfl;rw[this];omega
 have hv7:v<256^7:=Nat.lt_of_lt_of_le hv hp7;rw[e1,e2]
 have e3:((v|||(b*256^j):Nat))=v+b*256^j:=by
  rw[hp,←Nat.shiftLeft_eq,Nat.or_comm,←Nat.shiftLeft_add_eq_or_of_lt (by rw[←hp];exact hv),Nat.add_comm]
 have e4:bits BinOp.or IntKind.u64 (v:Int) ((b*256^j:Nat):Int)=IntKind.u64.wrap ((BitVec.ofInt 64 (v:Int)|||BitVec.ofInt 64 ((b*256^j:Nat):Int)).toNat:Int):=rfl;rw[e4,BitVec.ofInt_natCast,BitVec.ofInt_natCast,BitVec.toNat_or,BitVec.toNat_ofNat,BitVec.toNat_ofNat,Nat.mod_eq_of_lt (by omega),Nat.mod_eq_of_lt (by omega),e3];have:IntKind.u64.wrap ((v+b*256^j:Nat):Int)=((v+b*256^j:Nat):Int) %18446744073709551616:=rfl;rw[this];omega
theorem zba(w:World)(a:Option Addr)(c:Nat)(l:List Nat)(h:l.length≤1099511627776)(x wd:Int)(hb:za6 l.length x wd≠0):Calls prog 153 #[.slice a l.length c,x,wd] w (zE (.tuple #[.int .u64 0,(za6 l.length x wd)]) w):=by
 have hp:=fun w=>za8 w l.length x wd h;generalize za6 l.length x wd=E at*;have he:((E:Int) !=0)=true:=by simp;omega
 generalize l.length=n at*;clear hb;go_in;go_wp2_with (go_at_call 257;refine(hp _).mono ?_;rintro e w' ⟨rfl,rfl⟩);go_ret2;exact⟨rfl,rfl⟩
theorem zbb(w:World)(g o c:Nat)(l:List Nat)(x k:Nat)(hk:k=1∨k=2∨k=4∨k=8)(hx:x+k≤l.length)(hl:l.length≤1099511627776)
  (hcell:∀i,i<l.length→w.cell? ⟨g,o+i,none⟩=some (.int .u8 ((l[i]?.getD 0:Nat):Int))) (hby:∀b∈l,b<256) (hp:∀w,Calls prog 257 #[l.length,x,k] w (zE (0:Int) w)):
  Calls prog 153 #[.slice (some ⟨g,o,none⟩) l.length c,x,k] w (zE (.tuple #[.int .u64 (ldTo l x k),(0:Int)]) w):=by
 have HC:=hid hcell;have HB:=hid hby;clear hcell hby;have hk8:k≤8:=by omega
 generalize hn:l.length=n at*;clear hn hk;go_in;go_wp2_with (go_at_call 257;refine(hp _).mono ?_;rintro e w' ⟨rfl,rfl⟩);go_loop [9,20] (fun v i=>∃j:Nat,j≤k∧i= .int .i64 j∧v= .int .u64 (ldTo l x j)) (fun _ i=>k-(intOf i).toNat);case atStart=>exact⟨0,by omega,rfl,rfl⟩
 case round=>
  obtain⟨j,hj,rfl,rfl⟩:=hrel;by_cases hlt:j<k
  ·have hc:=HC.out (x+j) (by omega)
   have hlo:=zas l HB.out x j;generalize hb:l[x+j]?.getD 0=b at*
   have hbb:b<256:=by
    rw[←hb];rcases h:l[x+j]? with _|c
    ·simp
    ·exact HB.out c (List.mem_of_getElem? h)
   have hs:ldTo l x (j+1)=ldTo l x j+b*256^j:=by rw[ldTo,hb]
   obtain⟨v',hv'⟩:∃v',v'=ldTo l x (j+1):=⟨_,rfl⟩;rw[←hv']at hs;have HW:=hid hv';clear hv';generalize ldTo l x j=v at*;have HS:=hid hs;have HV:=hid hlo;clear hs hb hlo;go_wp2;refine⟨⟨j+1,by omega,by go_num,?_⟩,by simp[intOf];omega⟩;rw[za9 v b j (by omega) hbb HV.out,←HS.out,←HW.out]
  ·obtain rfl:j=k:=by omega
   go_wp2;go_ret2;exact⟨rfl,rfl⟩
theorem zbc(w:World)(a:Option Addr)(c:Nat)(l:List Nat)(h:Byt w a l)(x wd:Int):Calls prog 153 #[.slice a l.length c,x,wd] w (zE (.tuple #[.int .u64 (ldV l x wd),(za6 l.length x wd)]) w):=by
 unfold ldV;by_cases hE:za6 l.length x wd=0
 ·rw[if_pos hE]
  have hp:=fun w=>za8 w l.length x wd h.len;rw[hE]at hp⊢;unfold za6 at hE;rcases hB:widB wd with _|_
  ·rw[hB]at hE;simp at hE
  ·obtain⟨k,rfl,hk⟩:=za7 hB
   rw[hB]at hE;simp only[Bool.true_eq_false,if_false]at hE;by_cases h1:x<0∨(l.length:Int)<x∨(l.length:Int)-x<k
   ·rw[if_pos h1]at hE;simp at hE
   ·obtain⟨y,rfl⟩:∃y:Nat,x=y:=⟨x.toNat,by omega⟩
    obtain⟨g,o,rfl,_⟩:=h.at_ 0 (by omega);rw[Int.toNat_natCast,Int.toNat_natCast]
    exact zbb w g o c l y k hk (by omega) h.len (fun i hi=>by
     obtain⟨g',o',e,hc,_⟩:=h.at_ i hi;injection e with e;injection e with e1 e2 e3;subst e1;subst e2;exact hc) h.byte hp
 ·rw[if_neg hE]
  exact zba w a c l h.len x wd hE
def zbd(l:List Nat):List Value:=l.map fun k:Nat=>Value.int .u8 (k:Int)
def OwnB(w:World)(base:Nat)(v:Value)(l:List Nat):Prop:=w.ownsRow base 5 1 v l.length (zbd l)
theorem OwnB.nil(w:World)(base:Nat):OwnB w base (.slice none 0 0) [] :=⟨rfl,.inl ⟨rfl,rfl⟩⟩
theorem OwnB.made{w:World}{base g:Nat}{l:List Nat}(hb:base≤g)(h:Blk w g 5 (bytes l))(hl:l.length≤maxLen):OwnB w base (.slice (some ⟨g,0,none⟩) l.length l.length) l:=
 ⟨by simp[zbd],.inr ⟨g,l.length,bytes l,rfl,hb,h,Nat.le_refl _,hl,by simp[bytes],by simp[zbd,bytes];rw[List.take_of_length_le (by simp)]⟩⟩
theorem OwnB.alloc{w:World}{base:Nat}{v:Value}{l:List Nat}(h:OwnB w base v l)(o:Obj):OwnB (w.alloc o) base v l:=World.ownsRow.alloc h o
theorem OwnB.byt{w:World}{base:Nat}{v:Value}{l:List Nat}(h:OwnB w base v l)(hb:∀b∈l,b<256)(hl:l.length≤1099511627776):∃a c,v= .slice a l.length c∧Byt w a l∧(∀g o,a=some ⟨g,o,none⟩→base≤g):=by
 obtain⟨h1,⟨rfl,h2⟩|⟨g,cap,cur,rfl,hg,hh,_,_,_,ht⟩⟩:=h
 ·refine⟨none,0,by rw[h2],⟨fun i hi=>by omega,hb,hl⟩,fun g o e=>by cases e⟩
 ·refine⟨_,_,rfl,⟨fun i hi=>⟨g,0,rfl,?_,Blk.lt hh⟩,hb,hl⟩,fun g' o e=>by injection e with e;injection e with e1 e2;omega⟩
  rw[Nat.zero_add,Blk.cell hh];have h3:(cur.toList.take (l.length*1))[i]?=(zbd l)[i]?:=by rw[ht]
  rw[List.getElem?_take_of_lt (by omega),Array.getElem?_toList]at h3;rw[h3,zbd,List.getElem?_map,List.getElem?_eq_getElem hi];rfl
theorem zbe:∃i,prog.info? 5=some i∧i.zero=some (.int .u8 0)∧i.size=1∧i.bytes=1:=by
 have h:(prog.info? 5).map (fun i=>(i.zero,i.size,i.bytes))=some (some (.int .u8 0),1,1):=by kernel_rfl
 cases e:prog.info? 5 with
 |none=>rw[e]at h;cases h
 |some i=>
  rw[e]at h;simp at h;exact⟨i,rfl,h.1,h.2.1,h.2.2⟩
theorem Fr.of_grown{w w':World}{row:Option Nat}{S:List Nat}(h:w.grownBy w' row)(hr:∀g,row=some g→g∈S):Fr S w w':=
 ⟨h.os,h.tape,h.output,h.size,fun k hk hn=>h.block k hk (fun e=>hn (hr k e.symm))⟩
theorem zbf(w:World)(base:Nat)(v:Value)(l:List Nat)(h:OwnB w base v l)(a:Option Addr)(c:Nat)(m:List Nat)(hm:Byt w a m)(hl:l.length+m.length≤1099511627776)(hbase:base≤w.heap.size):∃v' w',(Builtin.append_ #[49,49] 49 #[v,.slice a m.length c]).run prog w= .ok v' w'∧OwnB w' base v' (l++m)∧w.grownBy w' v.ownBlock∧(v'.ownBlock=v.ownBlock∨v'.ownBlock=some w.heap.size):=by
 obtain⟨i,hi,hz,hs,hb⟩:=zbe;rcases a with _|ad
 ·have hm0:m= [] :=by
   rcases m with _|⟨x,m⟩
   ·rfl
   ·obtain⟨g,o,e,_⟩:=hm.at_ 0 (by simp)
    cases e
  subst hm0;refine⟨v,w,?_,by simpa using h,World.grownBy.refl w _,.inl rfl⟩;obtain⟨h1,⟨rfl,h2⟩|⟨g,cap,cur,rfl,_,_,hc,_⟩⟩:=h
  ·have:l= [] :=List.eq_nil_of_length_eq_zero h2
   subst this;simp[Builtin.append_,run_underlying underlying49,sizeOf,typeInfo,hi,Builtin.lenOf,Builtin.firstCells]
  ·simp[Builtin.append_,run_underlying underlying49,sizeOf,typeInfo,hi,Builtin.lenOf,Builtin.firstCells,hc,storeCells]
 ·have hcells:∀j u,(zbd m)[j]?=some u→w.cell? (ad.add j)=some u:=by
   intro j u hu
   have hj:j<m.length:=by
    have:=(List.getElem?_eq_some_iff.1 hu).1;simpa[zbd]using this
   obtain⟨g,o,e,hc,_⟩:=hm.at_ j hj;injection e with e;subst e;have hadd:(⟨g,o,none⟩:Addr).add j=⟨g,o+j,none⟩:=by unfold Addr.add;split<;>simp_all
   rw[hadd,hc];rw[zbd,List.getElem?_map,List.getElem?_eq_getElem hj]at hu;rw[List.getElem?_eq_getElem hj];exact hu
  have key:=fun ty=>run_append_own_at (P:=prog) w base 49 ty 5 i (.int .u8 0) 1 1 underlying49 hi hz hs hb rfl (by decide) v l.length (zbd l) h ad m.length c (zbd m) (by simp[zbd]) hcells (fun u hu=>by
   obtain⟨k,_,rfl⟩:=List.mem_map.1 hu;rfl) (by unfold maxLen;omega) (by omega) hbase
  obtain⟨v',w',hrun,h2,h3,_,h5⟩:=key 49;refine⟨v',w',hrun,?_,h3,h5⟩;unfold OwnB;rw[List.length_append,zbd,List.map_append];exact h2
theorem OwnB.fr{w0 w w':World}{base:Nat}{v:Value}{l:List Nat}(h:OwnB w base v l)(hg:w.grownBy w' v.ownBlock)(hf:Fr [] w0 w)(hb:w0.heap.size≤base):Fr [] w0 w':=by
 have hno:∀k,k<base→some k≠v.ownBlock:=by
  obtain⟨_,⟨rfl,_⟩|⟨g,cap,cur,rfl,hgb,_⟩⟩:=h
  ·intro k _ e;cases e
  ·intro k hk e
   injection e with e;have e2:k=g:=e;omega
 exact⟨hg.os.trans hf.os,hg.tape.trans hf.tape,hg.output.trans hf.output,Nat.le_trans hf.size hg.size,fun k hk hn=>(hg.block k (Nat.lt_of_lt_of_le hk hf.size) (hno k (by omega))).trans (hf.block k hk hn)⟩
theorem zbg{w:World}{o:Oper}{a:Act}{K:Act→World→Prop}{Q:Exit→Act→World→Prop}(s x:Operand)(ho:o.op= .call {callee:= .builtin .append,args:= #[s,x],argTypes:= #[49,49]})(hty:o.type=49)
  (base:Nat) (v:Value) (l:List Nat) (hs:a.eval s=v) (hown:OwnB w base v l) (A:Option Addr) (c n:Nat) (m:List Nat) (hn:m.length=n) (hx:a.eval x= .slice A n c) (hm:Byt w A m)
  (hl:l.length+m.length≤1099511627776) (hbase:base≤w.heap.size)
  (h: ∀v' w',OwnB w' base v' (l++m)→w.grownBy w' v.ownBlock→(v'.ownBlock=v.ownBlock∨v'.ownBlock=some w.heap.size)→K (a.put o.dst v') w'):o.wp prog a w K Q:=by
 subst hn
 obtain⟨v',w',hrun,h2,h3,h4⟩:=zbf w base v l hown A c m hm hl hbase
 unfold Oper.wp execOp
 simp only[ho,hty,resolve,invoke,builtin,Sem.run_bind,Sem.run_pure,Result.andThen_ok,List.map_toArray,List.map_cons,List.map_nil,hs,hx,hrun]
 exact h v' w' h2 h3 h4
theorem zbh{w:World}{ops:Array Oper}{rest:List Oper}{o:Oper}{a:Act}{Q:Exit→Act→World→Prop}(hgd:o.guard=none)(s x:Operand)(ho:o.op= .call {callee:= .builtin .append,args:= #[s,x],argTypes:= #[49,49]})(hty:o.type=49)
  (base:Nat) (v:Value) (l:List Nat) (hs:a.eval s=v) (hown:OwnB w base v l) (A:Option Addr) (c n:Nat) (m:List Nat) (hn:m.length=n) (hx:a.eval x= .slice A n c) (hm:Byt w A m)
  (hl:l.length+m.length≤1099511627776) (hbase:base≤w.heap.size)
  (h: ∀v' w',OwnB w' base v' (l++m)→w.grownBy w' v.ownBlock→(v'.ownBlock=v.ownBlock∨v'.ownBlock=some w.heap.size)→wpList prog ops Q rest (a.put o.dst v') w'):wpList prog ops Q (o::rest) a w:=
 wpList_plain hgd fun _ hK=>zbg s x ho hty base v l hs hown A c n m hn hx hm hl hbase fun v' w' h2 h3 h4=>hK _ _ (h v' w' h2 h3 h4)
def intC(l:List Nat):List Value:=l.map fun k:Nat=>Value.int .i64 (k:Int)
def RowI(w:World)(g cap:Nat)(l:List Nat):Prop:= ∃cur,Blk w g 3 cur∧cur.size=cap∧l.length≤cap∧cur.toList.take l.length=intC l
section
variable{w w':World}{g cap:Nat}{l:List Nat}{S:List Nat}
theorem RowI.fr(h:RowI w g cap l)(hf:Fr S w w')(hg:g∉S):RowI w' g cap l:=by
 obtain⟨cur,hb,h1,h2,h3⟩:=h;exact⟨cur,hb.fr hf hg,h1,h2,h3⟩
theorem RowI.drewN(h:RowI w g cap l)(n:Nat):RowI (w.drewN n) g cap l:=h.fr (S:= []) ((Fr.refl _ _).drewN n) (by simp)
theorem RowI.lt(h:RowI w g cap l):g<w.heap.size:=by
 obtain⟨cur,hb,_⟩:=h;exact hb.lt
theorem RowI.le(h:RowI w g cap l):l.length≤cap:=by
 obtain⟨cur,_,_,h2,_⟩:=h;exact h2
theorem RowI.cell(h:RowI w g cap l)(j:Nat)(hj:j<l.length):w.cell? ⟨g,j,none⟩=some (.int .i64 (l[j] :Int)):=by
 obtain⟨cur,hb,_,_,h3⟩:=h;rw[hb.cell,←Array.getElem?_toList];have e:(cur.toList.take l.length)[j]?=(intC l)[j]?:=by rw[h3]
 rw[List.getElem?_take_of_lt hj]at e;rw[e];simp[intC,hj]
theorem zbi{base:Nat}{v:Value}(h:w.ownsRow base 3 1 v l.length (intC l)):(l= []∧v= .slice none 0 0)∨∃g cap,v= .slice (some ⟨g,0,none⟩) l.length cap∧base≤g∧RowI w g cap l:=by
 obtain⟨_,⟨h2,h3⟩|⟨g,cap,cur,rfl,hb,hg,r1,_,r3,r4⟩⟩:=h
 ·exact .inl ⟨List.length_eq_zero_iff.1 h3,h2⟩
 ·rw[Nat.mul_one]at r3 r4
  exact .inr ⟨g,cap,rfl,hb,cur,hg,r3,r1,r4⟩
end
def RowV(w:World)(base:Nat)(ad:Option Addr)(cap:Nat)(l:List Nat):Prop:=0<l.length→ ∃g,ad=some ⟨g,0,none⟩∧base≤g∧RowI w g cap l
theorem zbj{w:World}{l:List Nat}{base:Nat}{v:Value}(h:w.ownsRow base 3 1 v l.length (intC l)):∃ad cap,v= .slice ad l.length cap∧RowV w base ad cap l:=by
 rcases zbi h with⟨rfl,rfl⟩|⟨g,cap,rfl,hb,hr⟩
 ·exact⟨none,0,rfl,fun h=>absurd h (by simp)⟩
 ·exact⟨_,cap,rfl,fun _=>⟨g,rfl,hb,hr⟩⟩
theorem RowV.fr{w w':World}{base cap:Nat}{ad:Option Addr}{l:List Nat}{S:List Nat}(h:RowV w base ad cap l)(hf:Fr S w w')(hS:∀k∈S,k<base):RowV w' base ad cap l:=fun h0=>by
 obtain⟨g,e,hb,hr⟩:=h h0;exact⟨g,e,hb,hr.fr hf (fun hm=>by have:=hS _ hm;omega)⟩
def zbk(n:Nat)(f:Nat→Int):Array Value:=((List.range n).map fun i=>Value.int .i64 (f i)).toArray
theorem zbl(n:Nat)(f:Nat→Int):(zbk n f).size=n:=by simp[zbk]
theorem zbm(n:Nat)(f:Nat→Int)(i:Nat)(h:i<n):(zbk n f)[i]?=some (.int .i64 (f i)):=by simp[zbk,h]
theorem zbn{n:Nat}{f k:Nat→Int}(h:∀i,i<n→f i=k i):zbk n f=zbk n k:=by
 unfold zbk;congr 1;exact List.map_congr_left fun i hi=>by rw[h i (List.mem_range.1 hi)]
theorem zbo(n:Nat)(f k:Nat→Int)(i:Nat)(v:Int)(h:∀j,j<n→k j=if j=i then v else f j):(zbk n f).setIfInBounds i (.int .i64 v)=zbk n k:=by
 apply Array.ext
 ·simp[zbk]
 ·intro j h1 h2
  have hj:j<n:=by rw[zbl]at h2;exact h2
  rw[Array.getElem_setIfInBounds (by rw[zbl];exact hj)];simp only[zbk,List.getElem_toArray,List.getElem_map,List.getElem_range];rw[h j hj];by_cases e:i=j
  ·rw[if_pos e,if_pos e.symm]
  ·rw[if_neg e,if_neg (fun k=>e k.symm)]
theorem Blk.setF{w:World}{g n:Nat}{t:TypeId}{f:Nat→Int}(h:Blk w g t (zbk n f))(k:Nat→Int)(i:Nat)(v:Int)(hk:∀j,j<n→k j=if j=i then v else f j):Blk (w.setCell ⟨g,i,none⟩ (.int .i64 v)) g t (zbk n k):=by
 have:=h.set i (.int .i64 v);rw[zbo n f k i v hk]at this;exact this
theorem Blk.cellF{w:World}{g n:Nat}{t:TypeId}{f:Nat→Int}(h:Blk w g t (zbk n f))(i:Nat)(hi:i<n):w.cell? ⟨g,i,none⟩=some (.int .i64 (f i)):=(h.cell i).trans (zbm n f i hi)
theorem zbp(n:Nat):madeCells #[.int .i64 0] n=zbk n (fun _=>0):=by
 apply Array.ext
 ·simp[madeCells,zbk]
 ·intro i h1 h2
  simp[madeCells,zbk,Nat.mod_one]
theorem zbq{P:Program}(t e:TypeId)(ht:P.underlying t=some (.slice e))(hinfo:(P.info? e).map (fun i=>(i.zero,i.size,i.bytes))=some (some (.int .i64 0),1,8))
  (kl kc:IntKind) (n:Nat) (h:n≤1048576) (w:World):
  (Instr.makeSlice t (.int kl (n:Int)) (.int kc (n:Int))).run P w= .ok (.slice (some ⟨w.heap.size,0,none⟩) n n) (w.alloc (.cells (zbk n (fun _=>0)) e)):=by
 rw[←zbp];exact run_make_row' t e (.int .i64 0) 8 ht hinfo rfl kl kc n (by omega) (by omega) w
theorem zbr:(prog.info? 3).map (fun i=>(i.zero,i.size,i.bytes))=some (some (.int .i64 0),1,8):=by kernel_rfl
theorem zbs{w:World}{l:List Nat}{b1 b2 c1 c2:Nat}{d1 d2:Option Addr}(h1:RowV w b1 d1 c1 l)(h2:RowV w b2 d2 c2 l)(hl:l.length≤1048576):Calls prog 42 #[.slice d1 l.length c1,.slice d2 l.length c2] w (zN true w):=by
 generalize hn:l.length=n at*;have HN:=hid hn;clear hn;go_in;go_wp2;go_loopw [5] (fun i W=>∃k:Nat,k≤n∧i= .int .i64 k∧Fr [] w W) (fun i _=>n-(intOf i).toNat);case atStart=>exact⟨0,by omega,rfl,Fr.refl _ _⟩
 case round=>
  obtain⟨k,hk,rfl,hF⟩:=hrel;by_cases hlt:k<n
  ·have hkl:k<l.length:=by have:=HN.out;omega
   obtain⟨g1,rfl,_,r1⟩:=h1 (by omega);obtain⟨g2,rfl,_,r2⟩:=h2 (by omega);have cY:=fun q=>((r1.fr hF (by simp)).drewN q).cell k hkl;have cZ:=fun q=>((r2.fr hF (by simp)).drewN q).cell k hkl;have b1':=dT (k<n);have hg2:(0:Int)≤k:=by omega
   have hg3:(k:Int)<n:=by omega
   have w1:=i6 ((k:Int)+1);generalize l[k] =y at*;clear r1 r2;go_wp2_with fail;go_quiet (fail);go_wp2_with fail;rename_i nq
   go_roundw;case rel=>exact⟨k+1,by omega,by go_num,hF.drewN nq⟩
   case measure=>simp[intOf];omega
  ·obtain rfl:k=n:=by omega
   go_wp2;go_ret;exact⟨rfl,hF⟩
section
def Keep2(b:Nat)(W W':World):Prop:=W'.heap[b]?=W.heap[b]?∧W'.heap[b+1]?=W.heap[b+1]?
theorem Keep2.refl(b:Nat)(W:World):Keep2 b W W:=⟨rfl,rfl⟩
theorem Keep2.trans{b:Nat}{A B C:World}(h:Keep2 b A B)(k:Keep2 b B C):Keep2 b A C:=⟨k.1.trans h.1,k.2.trans h.2⟩
theorem Fr.keep2{S:List Nat}{b:Nat}{W W':World}(h:Fr S W W')(h1:b+1<W.heap.size)(hS:b∉S∧b+1∉S):Keep2 b W W':=⟨h.block b (by omega) hS.1,h.block (b+1) h1 hS.2⟩
theorem Fr.putObj{S:List Nat}{W:World}(l:Nat)(o:Obj)(hl:l∈S):Fr S W (W.putObj l o):=
 ⟨rfl,rfl,rfl,by simp[World.putObj],fun k _ hn=>World.putObj_heap_other (fun e=>hn (e▸hl))⟩
def zbt{α:Type}(b:Nat)(I:List α→World→Prop)(Ix:Code→List α→World→Prop)(xs:List α)(W:World):Exit→Act→World→Prop
 | .normal,_,W'=>Keep2 b W W'∧I xs W'
 | .ret,_,W'=>Keep2 b W W'∧Ix .ret xs W'
 | .exit id,_,W'=>Keep2 b W W'∧Ix (.exit id) xs W'
 | .goto t,_,W'=>Keep2 b W W'∧Ix (.goto t) xs W'
 | .panic _,_,_=>False
 | .outgrown,_,_=>False
variable{F:Fence}{n:Nat}{P:Program}
def zbu{α:Type}(F:Fence)(n:Nat)(P:Program)(g:Nat)(lb:Array Value)(encs:α→Array Value)(M:World→Prop)(Step:World→World→Prop)(Ok:List α→α→Prop)(S Sp:List α→Prop):Prop:=
 ∀(l:Nat) (J Jx:List α→World→Prop) (W:World),(∀s A,J s A→M A)→(∀s A B,J s A→Step A B→J s B)→(∀s A B,Jx s A→Step A B→Jx s B)→
  (∀pre x A,Ok pre x→J pre A→YieldAt F (n-1) P l (encs x) A fun e B=>(e= .returned true∧J (pre++ [x]) B)∨(e= .returned false∧Jx (pre++ [x]) B))→
  J [] W→CallsIn F n P g (#[.func (.yield l) #[] #[]] ++lb) W fun e B=>(∃v,e= .returned v)∧((∃xs,S xs∧J xs B)∨(∃pre,Sp pre∧Jx pre B))
theorem zbv{α:Type}{g:Operand}{ps:Array Tmp}{assign body:Code}{Q:Exit→Act→World→Prop}{a:Act}{w:World}
  (hro:F.round=none) (h1:1≤n) {gf:Nat} {lb:Array Value} (hg:a.eval g= .func (.func gf) #[] lb) (hFg:F.fn gf) (eg: ∀args w,(callFunc gf args).run P w= .ok (.enter gf args) w)
  {encs:α→Array Value} {M:World→Prop} {Step:World→World→Prop} {Ok:List α→α→Prop} {S Sp:List α→Prop} (hseq:zbu F (n-1) P gf lb encs M Step Ok S Sp) (hps: ∀x,(encs x).size=ps.size)
  (hStep: ∀A B,w.heap.size+1<A.heap.size→M A→Step A B→Keep2 w.heap.size A B∧A.heap.size≤B.heap.size)
  (I:List α→World→Prop) (Ix:Code→List α→World→Prop) (hIM: ∀s A,I s A→M A) (hXM: ∀c s A,Ix c s A→M A)
  (hI: ∀s A B,I s A→Fr [w.heap.size,w.heap.size+1] A B→I s B) (hIx: ∀c s A B,Ix c s A→Fr [w.heap.size,w.heap.size+1] A B→Ix c s B)
  (hIs: ∀s A B,I s A→Step A B→I s B) (hXs: ∀c s A B,Ix c s A→Step A B→Ix c s B) (h0:I [] w)
  (Ax:α→Act→World→Prop) (hAx: ∀x a' A B,Ax x a' A→Fr [w.heap.size,w.heap.size+1] A B→Ax x a' B)
  (hassign: ∀(l:Nat) (pre:List α) (x:α) (W:World) (K:Act→World→Prop),w.heap.size+1<W.heap.size→I pre W→(∀a' W',Keep2 w.heap.size W W'→I pre W'→Ax x a' W'→K a' W')→
   assign.wpIn (F.inRound l) (n-1-1) P (Exit.then K (fun _ _ _=>False)) {tmps:=(ps.zip (encs x)).foldl (fun t (p,v)=>t.setIfInBounds p v) a.tmps,defers:= []} W)
  (hbody: ∀(l:Nat) (pre:List α) (x:α) (a':Act) (W:World),w.heap.size+1<W.heap.size→Ok pre x→I pre W→Ax x a' W→body.wpIn (F.inRound l) (n-1-1) P (zbt w.heap.size I Ix (pre++ [x]) W) a' W)
  (hdone: ∀(D:Nat) (xs:List α) (W:World),w.heap.size≤D→S xs→I xs W→W.heap[D]?=some (.deferred (some []))→Q .normal {a with defers:={target:= .collected D,args:= #[]}::a.defers} W)
  (hstop: ∀(D:Nat) (c:Code) (pre:List α) (W:World),w.heap.size≤D→Sp pre→Ix c pre W→W.heap[D]?=some (.deferred (some []))→c.wpIn F n P Q {a with defers:={target:= .collected D,args:= #[]}::a.defers} W):
  (Code.rangeFunc g ps assign body).wpIn F n P Q a w:=by
 refine wpIn_rangeFunc fun fn hfn=> ?_
 rw[hro]
 generalize hb:w.heap.size=b at*
 obtain⟨rec,hrec⟩: ∃rec:LoopState→Option Code→Loop,rec=fun st pe=>{state:=st,pending:=pe,fn,tmps:=a.tmps,params:=ps,assign,body,defers:=b}:=⟨_,rfl⟩
 have e0:(Instr.enterLoop fn a.tmps ps assign body none).run P w= .ok (b+1,[{target:= .collected b,args:= #[]}]) ((w.alloc (.deferred (some []))).alloc (.loop (rec .ready none))):=by
  rw[hrec,←hb];exact run_enterLoop_outer _ _ _ _ _
 have hf0:Fr [b,b+1] w ((w.alloc (.deferred (some []))).alloc (.loop (rec .ready none))):=((Fr.refl _ _).alloc _).alloc _
 have hL0:((w.alloc (.deferred (some []))).alloc (.loop (rec .ready none))).heap[b+1]?=some (.loop (rec .ready none)):=by
  have:=World.alloc_heap_new (w.alloc (.deferred (some []))) (.loop (rec .ready none));rwa[World.size_alloc,hb]at this
 have hD0:((w.alloc (.deferred (some []))).alloc (.loop (rec .ready none))).heap[b]?=some (.deferred (some [])):=by
  rw[←hb];exact(Below.heap_alloc _ _ _ (by simp)).trans (World.alloc_heap_new w _)
 generalize(w.alloc (.deferred (some []))).alloc (.loop (rec .ready none))=W1 at*
 have lt_of: ∀{A:World} {o:Obj},A.heap[b+1]?=some o→b+1<A.heap.size:=fun h=>(Array.getElem?_eq_some_iff.1 h).1
 refine⟨b+1,[{target:= .collected b,args:= #[]}],W1,{target:= .fn (.func gf) lb,args:= #[.func (.yield (b+1)) #[] #[]]},W1,gf,#[.func (.yield (b+1)) #[] #[]] ++lb,W1,e0,?_,?_,?_,fun _=>h1,?_⟩
 ·simp only[resolve,hg]
  simp[go_sem]
 ·intro f' hf';simp[Target.leads]at hf';subst hf';exact hFg
 ·simp[invoke,go_sem,eg]
 refine(hseq (b+1)
  (fun s A=>I s A∧A.heap[b+1]?=some (.loop (rec .ready none))∧A.heap[b]?=some (.deferred (some [])))
  (fun s A=> ∃c,Ix c s A∧A.heap[b+1]?=some (.loop (rec .done (some c)))∧A.heap[b]?=some (.deferred (some [])))
  W1 (fun s A h=>hIM s A h.1)
  (fun s A B ⟨hi,hl,hd⟩ hs=>by
   obtain⟨k,_⟩:=hStep A B (lt_of hl) (hIM s A hi) hs
   exact⟨hIs s A B hi hs,k.2.trans hl,k.1.trans hd⟩)
  (fun s A B ⟨c,hi,hl,hd⟩ hs=>by
   obtain⟨k,_⟩:=hStep A B (lt_of hl) (hXM c s A hi) hs
   exact⟨c,hXs c s A B hi hs,k.2.trans hl,k.1.trans hd⟩)
  ?_ ⟨hI _ _ _ h0 hf0,hL0,hD0⟩).mono ?_
 ·rintro pre x A hok ⟨hi,hl,hd⟩
  have hy:=run_yield (P:=P) (args:=encs x) hl (by rw[hrec];exact hps x)
  rw[hrec]at hy
  refine⟨fn,_,assign,body,hy,roundIn_of_wpIn hfn (hassign _ pre x A _ (lt_of hl) hi ?_)⟩
  intro a' A2 k2 hi2 hax
  have hl2:=k2.2.trans hl
  have hd2:=k2.1.trans hd
  refine⟨_,run_beginRound hl2 (by rw[hrec]),?_⟩
  have fp: ∀(A:World) (o:Obj),Fr [b,b+1] A (A.putObj (b+1) o):=fun A o=>Fr.putObj _ _ (by simp)
  have hl3:(A2.putObj (b+1) (.loop {rec .ready none with state:= .busy})).heap[b+1]?=some (.loop {rec .ready none with state:= .busy}):=World.putObj_heap_same (lt_of hl2)
  have hd3:(A2.putObj (b+1) (.loop {rec .ready none with state:= .busy})).heap[b]?=some (.deferred (some [])):=(World.putObj_heap_other (by omega)).trans hd2
  refine wpIn_mono (hbody _ pre x a' _ (lt_of hl3) hok (hI _ _ _ hi2 (fp _ _)) (hAx _ _ _ _ hax (fp _ _))) ?_
  generalize A2.putObj (b+1) (.loop {rec .ready none with state:= .busy})=A3 at*
  have fin: ∀(jump:Option Code) (A4:World),Keep2 b A3 A4→
    (Instr.endRound (b+1) jump).run P A4= .ok (.bool jump.isNone) (A4.putObj (b+1) (.loop (rec (if jump.isNone then .ready else .done) jump)))∧
    (A4.putObj (b+1) (.loop (rec (if jump.isNone then .ready else .done) jump))).heap[b+1]?=some (.loop (rec (if jump.isNone then .ready else .done) jump))∧
    (A4.putObj (b+1) (.loop (rec (if jump.isNone then .ready else .done) jump))).heap[b]?=some (.deferred (some [])):=fun jump A4 k=>by
   have hl4:=k.2.trans hl3
   have hr:=run_endRound (P:=P) jump hl4
   rw[hrec]at hr⊢
   exact⟨hr,World.putObj_heap_same (lt_of hl4),(World.putObj_heap_other (by omega)).trans (k.1.trans hd3)⟩
  rintro e a3 A4 hp
  cases e with
  |normal=>
   obtain⟨k,h⟩:=hp
   obtain⟨r1,r2,r3⟩:=fin none A4 k
   exact⟨_,_,r1,.inl ⟨rfl,hI _ _ _ h (fp _ _),r2,r3⟩⟩
  |ret=>
   obtain⟨k,h⟩:=hp
   obtain⟨r1,r2,r3⟩:=fin (some .ret) A4 k
   exact⟨_,_,r1,.inr ⟨rfl,.ret,hIx _ _ _ _ h (fp _ _),r2,r3⟩⟩
  |exit id=>
   obtain⟨k,h⟩:=hp
   obtain⟨r1,r2,r3⟩:=fin (some (.exit id)) A4 k
   exact⟨_,_,r1,.inr ⟨rfl,.exit id,hIx _ _ _ _ h (fp _ _),r2,r3⟩⟩
  |goto t=>
   obtain⟨k,h⟩:=hp
   obtain⟨r1,r2,r3⟩:=fin (some (.goto t)) A4 k
   exact⟨_,_,r1,.inr ⟨rfl,.goto t,hIx _ _ _ _ h (fp _ _),r2,r3⟩⟩
  |panic ch=>exact hp.elim
  |outgrown=>exact hp.elim
 ·have fp: ∀(A:World) (o:Obj),Fr [b,b+1] A (A.putObj (b+1) o):=fun A o=>Fr.putObj _ _ (by simp)
  rintro e A ⟨⟨v,rfl⟩,⟨xs,hS,hi,hl,hd⟩|⟨pre,hSp,c,hi,hl,hd⟩⟩
  ·have hr:=run_endLoop (P:=P) hl (by rw[hrec];simp)
   rw[hrec]at hr
   exact⟨none,_,hr,hdone b xs _ (Nat.le_refl _) hS (hI _ _ _ hi (fp _ _)) ((World.putObj_heap_other (by omega)).trans hd)⟩
  ·have hr:=run_endLoop (P:=P) hl (by rw[hrec];simp)
   rw[hrec]at hr
   exact⟨some c,_,hr,hstop b c pre _ (Nat.le_refl _) hSp (hIx _ _ _ _ hi (fp _ _)) ((World.putObj_heap_other (by omega)).trans hd)⟩
end
section
open Go.ChangeShapes Go.WideShapes Go.Deep Go.RowKit
section
variable{H:Type}
end
theorem zbw{w:World}{a:Addr}{v:Value}(h:w.cell? a=some v):a.block<w.heap.size:=by
 unfold World.cell? at h;cases hb:w.heap[a.block]? with
 |none=>rw[hb]at h;cases h
 |some o=>exact(Array.getElem?_eq_some_iff.1 hb).1
theorem zbx{α:Type}(P:Nat→α→Prop):∀n:Nat,(∀i,i<n→∃x,P i x)→∃l:List α,l.length=n∧∀i (h:i<l.length),P i l[i]
 |0,_=>⟨[],rfl,fun i h=>by simp at h⟩
 |n+1,h=>by
  obtain⟨l,hl,hp⟩:=zbx P n (fun i hi=>h i (by omega));obtain⟨x,hx⟩:=h n (by omega);refine⟨l++ [x],by simp[hl],fun i hi=> ?_⟩;by_cases h2:i<l.length
  ·rw[List.getElem_append_left h2];exact hp i h2
  ·have:i=n:=by simp at hi;omega
   subst this;rw[List.getElem_append_right (by omega)];simpa[hl]using hx
end
section
open Go.ChangeShapes Go.WideShapes Go.ChangeAt Go.RowKit
theorem zby{n:Int}(h:(Lit.int .i64 n).wf=true): -9223372036854775808≤n∧n≤9223372036854775807:=by
 simp only[Lit.wf,IntKind.min,IntKind.max,IntKind.signed,IntKind.bits,Bool.and_eq_true,decide_eq_true_eq,if_true]at h;simp at h;omega
theorem zbz{n:Int}(h:(Lit.int .u64 n).wf=true):∃k:Nat,n=k∧k<18446744073709551616:=by
 simp only[Lit.wf,IntKind.min,IntKind.max,IntKind.signed,IntKind.bits,Bool.and_eq_true]at h;simp at h;exact⟨n.toNat,by omega,by omega⟩
end
def nthZ(x:Int)(n:Nat):Nat:=(x.tmod n).natAbs
theorem zb0(x:Int)(n:Nat)(h:0<n):nthZ x n<n:=by
 unfold nthZ;have:=Int.tmod_lt_of_pos x (show(0:Int)<n by omega);have:=Int.lt_tmod_of_pos x (show(0:Int)<n by omega);omega
theorem zb1(x:Int)(n:Nat):max (x.tmod n) (-(x.tmod n))=((nthZ x n:Nat):Int):=by unfold nthZ;omega
theorem zb2(x:Int)(n:Nat)(h0:0<n)(hn:n≤1048576):IntKind.i64.wrap (x.tmod n)=x.tmod n∧IntKind.i64.wrap (-(x.tmod n))= -(x.tmod n):=by
 have:=Int.tmod_lt_of_pos x (show(0:Int)<n by omega);have:=Int.lt_tmod_of_pos x (show(0:Int)<n by omega);exact⟨i6 _,i6 _⟩
section
open Go.RowKit Go
section
variable{P:Program}{ops:Array Oper}{Q:Exit→Act→World→Prop}{md:Region.Mode}{S:World→Prop}
theorem tkY(i:Nat){oi:Oper}{v:Value}{fuel:Nat}{listed:Array Bool}{a a':Act}{w:World}(hS:S w)(h:wpAnyH P md ops Q S fuel (listed.setIfInBounds i true) a' w)
  (hi:ops[i]?=some oi:=by(simp only[gE];rfl))
  (hs:Region.noSelect ops=true:=by kernel_rfl) (hf:Region.free md ops listed i=true:=by kernel_rfl) (hr:(Region.ready md ops listed).contains i=true:=by kernel_rfl)
  (hQ: ∀c a w,Q (.panic c) (a.put oi.dst v) w→Q (.panic c) a w:=by exact fun _ _ _ h=>h)
  (hw:Region.wanted oi (yielded ops a.tmps)=true:=by rfl) (hh: ∀w,S w→(execOp a.eval oi).run P w= .ok (.value v) w:=by(intro w hSw;(try dsimp only at hSw);go_simp;try with_reducible rfl))
  (ha:a.put oi.dst v=a':=by(first|(simp only[Act.put,List.setIfInBounds_toArray,List.set_cons_zero,List.set_cons_succ];done)|(simp only[Act.put,List.setIfInBounds_toArray,List.set_cons_zero,List.set_cons_succ];rfl))):wpAnyH P md ops Q S (fuel+1) listed a w:=by
 subst ha
 exact wpAnyH_take hi hs hf hr hQ (Or.inl ⟨hw,hh⟩) hS h
theorem tkZ(i:Nat){oi:Oper}{v:Value}{fuel:Nat}{listed:Array Bool}{a a':Act}{w:World}(h:wpAnyH P md ops Q S fuel (listed.setIfInBounds i true) a' w)
  (hi:ops[i]?=some oi:=by(simp only[gE];rfl))
  (hs:Region.noSelect ops=true:=by kernel_rfl) (hf:Region.free md ops listed i=true:=by kernel_rfl) (hr:(Region.ready md ops listed).contains i=true:=by kernel_rfl)
  (hQ: ∀c a w,Q (.panic c) (a.put oi.dst v) w→Q (.panic c) a w:=by exact fun _ _ _ h=>h)
  (hw:Region.wanted oi (yielded ops a.tmps)=true:=by rfl) (hh: ∀w,S w→(execOp a.eval oi).run P w= .ok (.value v) w:=by(intro w hSw;(try dsimp only at hSw);go_simp;try with_reducible rfl))
  (ha:a.put oi.dst v=a':=by(first|(simp only[Act.put,List.setIfInBounds_toArray,List.set_cons_zero,List.set_cons_succ];done)|(simp only[Act.put,List.setIfInBounds_toArray,List.set_cons_zero,List.set_cons_succ];rfl))) (hS:S w:=by assumption):wpAnyH P md ops Q S (fuel+1) listed a w:=by
 subst ha
 exact wpAnyH_take hi hs hf hr hQ (Or.inl ⟨hw,hh⟩) hS h
theorem tkN(i:Nat){oi:Oper}{fuel:Nat}{listed:Array Bool}{a a':Act}{w:World}(hS:S w)(h:wpAnyH P md ops Q S fuel (listed.setIfInBounds i true) a' w)
  (hi:ops[i]?=some oi:=by(simp only[gE];rfl))
  (hs:Region.noSelect ops=true:=by kernel_rfl) (hf:Region.free md ops listed i=true:=by kernel_rfl) (hr:(Region.ready md ops listed).contains i=true:=by kernel_rfl)
  (hQ: ∀c a w,Q (.panic c) (a.put oi.dst undef) w→Q (.panic c) a w:=by exact fun _ _ _ h=>h)
  (hw:Region.wanted oi (yielded ops a.tmps)=false:=by rfl)
  (ha:a.put oi.dst undef=a':=by(first|(simp only[Act.put,List.setIfInBounds_toArray,List.set_cons_zero,List.set_cons_succ];done)|(simp only[Act.put,List.setIfInBounds_toArray,List.set_cons_zero,List.set_cons_succ];rfl))):wpAnyH P md ops Q S (fuel+1) listed a w:=by
 subst ha
 exact wpAnyH_take hi hs hf hr hQ (Or.inr ⟨hw,rfl⟩) hS h
theorem tkM(i:Nat){oi:Oper}{fuel:Nat}{listed:Array Bool}{a a':Act}{w:World}(h:wpAnyH P md ops Q S fuel (listed.setIfInBounds i true) a' w)
  (hi:ops[i]?=some oi:=by(simp only[gE];rfl))
  (hs:Region.noSelect ops=true:=by kernel_rfl) (hf:Region.free md ops listed i=true:=by kernel_rfl) (hr:(Region.ready md ops listed).contains i=true:=by kernel_rfl)
  (hQ: ∀c a w,Q (.panic c) (a.put oi.dst undef) w→Q (.panic c) a w:=by exact fun _ _ _ h=>h)
  (hw:Region.wanted oi (yielded ops a.tmps)=false:=by rfl)
  (ha:a.put oi.dst undef=a':=by(first|(simp only[Act.put,List.setIfInBounds_toArray,List.set_cons_zero,List.set_cons_succ];done)|(simp only[Act.put,List.setIfInBounds_toArray,List.set_cons_zero,List.set_cons_succ];rfl))) (hS:S w:=by assumption):wpAnyH P md ops Q S (fuel+1) listed a w:=by
 subst ha
 exact wpAnyH_take hi hs hf hr hQ (Or.inr ⟨hw,rfl⟩) hS h
theorem tkC(i:Nat){o:Oper}{fuel:Nat}{listed:Array Bool}{a:Act}{w:World}
  (h: ∀K:Act→World→Prop,Shut (∀(b b':Act) (v:World),S v→(S v→wpAnyH P md ops Q S fuel (listed.setIfInBounds i true) b' v)→(hb:b=b':=by(first|(simp only[Act.put,List.setIfInBounds_toArray,List.set_cons_zero,List.set_cons_succ];done)|(simp only[Act.put,List.setIfInBounds_toArray,List.set_cons_zero,List.set_cons_succ];rfl)|rfl))→K b v)→if Region.wanted o (yielded ops a.tmps)=true then Oper.wp P o a w K Q else K (a.put o.dst undef) w)
  (hi:ops[i]?=some o:=by(simp only[gE];rfl))
  (hr:Region.ready md ops listed= [i] :=by kernel_rfl):wpAnyH P md ops Q S (fuel+1) listed a w:=
 wpAnyH_ready hr (by simp) (AllReadyH.cons hi (fun K hK=>h K (fun b b' v hS hW hb=>hb▸hK b v hS (fun hs=>hb.symm▸hW hs))) AllReadyH.nil)
end
end
structure IsW(w:World)(p b:Nat)(ks:List Nat)(lk ft:Int):Prop where
 st:Blk w p 244 #[.slice (some ⟨b,0,none⟩) ks.length ks.length,lk,ft]
 row:Blk w b 5 (bytes ks)
 len:ks.length≤262144
 le: ∀k∈ks,k≤8
theorem IsW.setRow{w:World}{p b:Nat}{ks:List Nat}{lk ft:Int}(h:IsW w p b ks lk ft)(i k:Nat)(hk:k≤8):IsW (w.setCell ⟨b,i,none⟩ (.int .u8 (k:Int))) p b (ks.set i k) lk ft:=by
 refine⟨?_,?_,by rw[List.length_set];exact h.len,fun x hx=>(List.mem_or_eq_of_mem_set hx).elim (h.le x) (fun e=>e▸hk)⟩
 ·rw[List.length_set];exact h.st.far (p:=⟨b,i,none⟩) (h.st.ne_ h.row (by decide)) _
 ·rw[←zab];exact h.row.set i _
theorem IsW.fr{w w':World}{p b:Nat}{ks:List Nat}{lk ft:Int}{S:List Nat}(h:IsW w p b ks lk ft)(hf:Fr S w w')(hp:p∉S)(hb:b∉S):IsW w' p b ks lk ft:=
 ⟨h.st.fr hf hp,h.row.fr hf hb,h.len,h.le⟩
theorem IsW.ne{w:World}{p b:Nat}{ks:List Nat}{lk ft:Int}(h:IsW w p b ks lk ft):p≠b:=h.st.ne_ h.row (by decide)
theorem zb3(w:World)(p:Nat)(b n c:Nat)(h:w.cell? ⟨p,0,none⟩=some (.slice (some ⟨b,0,none⟩) n c)):Calls prog 189 #[some p] w (zR false fun w'=>w=w'):=by
 have e1:=fun(w:World)=>Lib.run_eql_slice_nil (P:=prog) w 49 5 (some ⟨b,0,none⟩) n c 0 0 underlying49;go_in;go_wp2;go_ret;exact⟨rfl,rfl⟩
theorem zb4(w:World)(p:Nat)(b n c:Nat)(hn:n≤262144)(h:w.cell? ⟨p,0,none⟩=some (.slice (some ⟨b,0,none⟩) n c)):Calls prog 271 #[some p] w (zR (.int .i64 (4*n)) fun w'=>w=w'):=by
 go_in;go_wp2;go_ret;exact⟨rfl,rfl⟩
def zb5(sz:Nat)(at_ n:Int):Bool:=decide (0≤at_∧0≤n∧at_≤sz∧n≤sz-at_)
theorem zb6(w:World)(p:Nat)(b n c:Nat)(x y:Int)(hn:n≤262144)(h:w.cell? ⟨p,0,none⟩=some (.slice (some ⟨b,0,none⟩) n c)):Calls prog 190 #[some p,x,y] w (zR (.bool (zb5 (4*n) x y)) fun w'=>w=w'):=by
 have hs:=zb4 w p b n c hn h;go_in;go_wp2_with (go_at_call 271;refine hs.mono ?_;rintro e w' ⟨rfl,rfl⟩);all_goals(go_ret;unfold zb5;exact⟨by first|exact zam (by omega)|exact ret_true (by omega)|exact zan (by omega),rfl⟩)
theorem zb7(w:World):(zeroValue 5).run prog w= .ok (.int .u8 0) w:=by kernel_rfl
def newW(w:World)(m:Nat):World:=(w.alloc (.cells (bytes (List.replicate m 0)) 5)).alloc (.cells #[.slice (some ⟨w.heap.size,0,none⟩) m m,(0:Int),(0:Int)] 244)
theorem zb8(w:World)(m:Nat):Blk (newW w m) w.heap.size 5 (bytes (List.replicate m 0)):=(Blk.new w _ _).alloc _
theorem zb9(w:World)(m:Nat):Blk (newW w m) (w.heap.size+1) 244 #[.slice (some ⟨w.heap.size,0,none⟩) m m,.int .i64 0,.int .i64 0] :=by
 have:=Blk.new (w.alloc (.cells (bytes (List.replicate m 0)) 5)) 244 #[.slice (some ⟨w.heap.size,0,none⟩) m m,.int .i64 0,.int .i64 0];rw[World.size_alloc]at this;exact this
theorem zca(w:World)(m:Nat)(h1:1≤m)(h2:m≤262144):Calls prog 155 #[.int .i64 (4*m)] w fun e w'=>∃p b,e= .returned (some p)∧IsW w' p b (List.replicate m 0) 0 0∧w.heap.size≤p∧w.heap.size≤b∧Fr [] w w':=by
 have h4:(4*(m:Int))/4=m:=by omega
 have hmk:=zae (P:=prog) 49 5 underlying49 zaz .i64 .i64 m (by omega)
 have hcl:∀ty,(Builtin.clear_ #[49] ty #[.slice (some ⟨w.heap.size,0,none⟩) m m]).run prog (newW w m)= .ok (.tuple #[]) ((newW w m).setCells w.heap.size 0 (List.replicate m (.int .u8 0))):=fun ty=>
  Lib.run_clear_slice (newW w m) 49 5 ty (.int .u8 0) underlying49 zb7 rfl rfl w.heap.size 0 m m (by omega)
   (fun j hj=>by rw[(zb8 w m).cell,bytes_get _ _ (by simp;omega)];rfl) (fun j _=>(zb8 w m).frozen _)
 unfold newW at hcl;go_in;go_wp2;go_ret;refine⟨w.heap.size+1,w.heap.size,rfl,⟨?_,?_,by simp;omega,fun k hk=>by rw[List.eq_of_mem_replicate hk];omega⟩,by omega,by omega,?_⟩
 ·rw[List.length_replicate]
  exact(zb9 w m).setCells_far (by omega) _ _
 ·have:=(zb8 w m).setCells (List.replicate m (.int .u8 0)) 0
  have e:(List.replicate m (Value.int .u8 0)).toArray=bytes (List.replicate m 0):=by simp[bytes]
  rw[zai _ _ (by simp[zaa]),e]at this;exact this
 ·exact(((Fr.refl [] w).alloc _).alloc _).setCells (.inr (Nat.le_refl _)) _ _
theorem zcb(w:World)(p b:Nat)(ks:List Nat)(lk ft:Int)(h:IsW w p b ks lk ft):Calls prog 97 #[some p] w (zR ft fun w'=>w=w'):=by
 have hn:=zb3 w p b _ _ (h.st.cell 0);have hc:=h.st.cell 2;clear h;go_in;go_wp2_with (go_at_call 189;refine hn.mono ?_;rintro e w' ⟨rfl,rfl⟩);go_ret;exact⟨rfl,rfl⟩
def setR(ks:List Nat)(i j k:Nat):List Nat:=(List.range ks.length).map fun x=>if i≤x∧x<j then k else ks[x]?.getD 0
theorem zcc(ks:List Nat)(i j k:Nat):(setR ks i j k).length=ks.length:=by simp[setR]
theorem zcd(ks:List Nat)(i j k x:Nat)(hx:x<ks.length):(setR ks i j k)[x]?=some (if i≤x∧x<j then k else ks[x]?.getD 0):=by simp[setR,hx]
theorem zce(ks:List Nat)(i k:Nat):setR ks i i k=ks:=by
 apply List.ext_getElem?;intro x;by_cases hx:x<ks.length
 ·rw[zcd _ _ _ _ _ hx,if_neg (by omega)];simp[hx]
 ·rw[List.getElem?_eq_none (by rw[zcc];omega),List.getElem?_eq_none (by omega)]
theorem zcf(ks:List Nat)(i j k:Nat)(hij:i≤j):(setR ks i j k).set j k=setR ks i (j+1) k:=by
 apply List.ext_getElem?;intro x;by_cases hx:x<ks.length
 ·rw[List.getElem?_set,zcd _ _ _ _ _ hx,zcd _ _ _ _ _ hx,zcc]
  by_cases h:j=x
  ·subst h;rw[if_pos rfl,if_pos hx,if_pos (by omega)]
  ·rw[if_neg h]
   by_cases h2:i≤x∧x<j
   ·rw[if_pos h2,if_pos (by omega)]
   ·rw[if_neg h2,if_neg (by omega)]
 ·rw[List.getElem?_eq_none (by rw[List.length_set,zcc];omega),List.getElem?_eq_none (by rw[zcc];omega)]
theorem zcg(w:World)(p b:Nat)(ks:List Nat)(lk ft x y:Int)(i j k:Nat)(h:IsW w p b ks lk ft)(hij:i≤j)(hj:j≤ks.length)(hk:k≤8)(hx:x=4*i)(hy:y=4*j-4*i):Calls prog 157 #[some p,x,y,k] w (zR (0:Int) fun w'=>IsW w' p b (setR ks i j k) lk ft∧Fr [b] w w'):=by
 have hn:=zb3 w p b _ _ (h.st.cell 0);have hf:=zb6 w p b ks.length ks.length x y h.len (h.st.cell 0);rw[show zb5 (4*ks.length) x y=true by unfold zb5;simp;omega]at hf;have hc:=h.st.cell 0;have hl:=h.len;have e1:(x %4 !=0)=false:=by simp;omega
 have e2:(y %4 !=0)=false:=by simp;omega
 have e3:x/4=i:=by omega
 have e4:(x+y)/4=j:=by omega
 have e5:0≤x:=by omega
 have e6:0≤y:=by omega
 have e7:x+y≤1048576:=by omega
 have hL:∀n:Nat,n=ks.length→w.cell? ⟨p,0,none⟩=some (.slice (some ⟨b,0,none⟩) n n):=fun n hn=>by rw[hn];exact hc
 clear hx hy hc;by_cases hi:ks.length=i
 ·have hij':i=j:=by omega
  subst hij';have hc:=hL i hi.symm;have hji:i-i=0:=by omega
  have hj':i≤262144:=by omega
  rw[show setR ks i i k=ks from zce _ _ _];clear hL hi hl hij hj;go_in;go_wp2_with (first|(go_at_call 189;refine hn.mono ?_;rintro e w' ⟨rfl,rfl⟩)|(go_at_call 190;refine hf.mono ?_;rintro e w' ⟨rfl,rfl⟩));go_loop [10,49] (fun _ v=>v= .int .i64 0) (fun _ _=>0);case atStart=>rfl
  case round=>
   obtain rfl:=hrel;go_wp2;go_ret;exact⟨rfl,h,Fr.refl _ _⟩
 ·have hc:=hL _ rfl
  clear hL;go_in;go_wp2_with (first|(go_at_call 189;refine hn.mono ?_;rintro e w' ⟨rfl,rfl⟩)|(go_at_call 190;refine hf.mono ?_;rintro e w' ⟨rfl,rfl⟩));go_loopw [10,49] (fun _ v wr=>∃t:Nat,t≤j-i∧v= .int .i64 t∧IsW wr p b (setR ks i (i+t) k) lk ft∧Fr [b] w wr) (fun _ v _=>(j-i)-(intOf v).toNat);case atStart=>exact⟨0,Nat.zero_le _,rfl,by rw[Nat.add_zero,zce];exact h,Fr.refl _ _⟩
  case round=>
   obtain⟨t,ht,rfl,hw,hfr⟩:=hrel;have hf1:=hw.row.frozen (i+t);have hc1:=hw.row.cell (i+t);by_cases hlt:t<j-i
   ·rw[bytes_get _ _ (by rw[zcc];omega)]at hc1
    go_wp2;go_roundw;case rel=>exact⟨t+1,by omega,by go_num,by have:=hw.setRow (i+t) k hk;rw[zcf _ _ _ _ (by omega)]at this;exact this,hfr.setCell (.inl (by simp)) _⟩
    case measure=>simp[intOf];omega
   ·go_wp2
    go_ret;have:t=j-i:=by omega
    subst this;rw[show i+(j-i)=j by omega]at hw;exact⟨rfl,hw,hfr⟩
def oneK(ks:List Nat)(i j:Nat):Bool:=(List.range (j-i)).all fun x=>ks[i+x]?.getD 0==ks[i]?.getD 0
theorem zch(ks:List Nat)(i j:Nat)(h:∀x,x<j-i→ks[i+x]?.getD 0=ks[i]?.getD 0):oneK ks i j=true:=by
 simp only[oneK,List.all_eq_true,List.mem_range,beq_iff_eq];exact h
theorem zci(ks:List Nat)(i j x:Nat)(hx:x<j-i)(h:ks[i+x]?.getD 0≠ks[i]?.getD 0):oneK ks i j=false:=by
 rw[←Bool.not_eq_true];simp only[oneK,List.all_eq_true,List.mem_range,beq_iff_eq];exact fun hh=>h (hh x hx)
def zcj(ks:List Nat)(i j:Nat):Nat:=if oneK ks i j then ks[i]?.getD 0 else 0
def zck(ks:List Nat)(x y:Int):Nat:=
 if y<1∨zb5 (4*ks.length) x y=false then 0 else zcj ks (x/4).toNat ((x+y+3)/4).toNat
theorem zcl(w:World)(p b:Nat)(ks:List Nat)(lk ft x y:Int)(h:IsW w p b ks lk ft)(hb:y<1∨zb5 (4*ks.length) x y=false):Calls prog 92 #[some p,x,y] w (zR (0:Int) fun w'=>w=w'):=by
 have hn:=zb3 w p b _ _ (h.st.cell 0);have hf:=zb6 w p b ks.length ks.length x y h.len (h.st.cell 0);clear h;by_cases h1:y<1
 ·clear hb
  go_in;go_wp2;go_step3;go_wp2_with (go_at_call 189;refine hn.mono ?_;rintro e w' ⟨rfl,rfl⟩);rw[Exit.noGoto_ret];go_ret;exact⟨rfl,rfl⟩
 ·rw[(hb.resolve_left h1)]at hf
  clear hb;go_in;go_wp2;go_step3;go_wp2_with (first|(go_at_call 189;refine hn.mono ?_;rintro e w' ⟨rfl,rfl⟩)|(go_at_call 190;refine hf.mono ?_;rintro e w' ⟨rfl,rfl⟩));rw[Exit.noGoto_ret];go_ret;exact⟨rfl,rfl⟩
theorem zcm(w:World)(p b:Nat)(ks:List Nat)(lk ft x y:Int)(h:IsW w p b ks lk ft)(h1:1≤y)(hB:zb5 (4*ks.length) x y=true):Calls prog 92 #[some p,x,y] w (zR (.int .i64 (zcj ks (x/4).toNat ((x+y+3)/4).toNat)) fun w'=>w=w'):=by
 have hn:=zb3 w p b _ _ (h.st.cell 0);have hf:=zb6 w p b ks.length ks.length x y h.len (h.st.cell 0);rw[hB]at hf;have hB':0≤x∧0≤y∧x≤4*ks.length∧y≤4*ks.length-x:=by unfold zb5 at hB;simpa using hB
 obtain⟨g1,_,_,g4⟩:=hB';clear hB;obtain⟨i,hi⟩:∃i:Nat,x/4=i:=⟨(x/4).toNat,by omega⟩;obtain⟨j,hj⟩:∃j:Nat,(x+y+3)/4=j:=⟨((x+y+3)/4).toNat,by omega⟩;have hij:i<j:=by omega
 have hjl:j≤ks.length:=by omega
 rw[hi,hj];simp only[Int.toNat_natCast];have hl:=h.len;have hc:=h.st.cell 0;have hne:¬ks.length=i:=by omega
 have h63:x+y+4-1=x+y+3:=by omega
 have hg:=h.row.cell i;rw[bytes_get _ _ (by omega)]at hg;generalize hk0:ks[i]?.getD 0=k0 at hg;have K0:=hid hk0;have H:=h
 have hw8:(k0:Int)≤8:=by
  rw[←hk0,List.getElem?_eq_getElem (by omega)];have:=h.le ks[i] (List.getElem_mem _);simp;omega
 clear hk0 h;go_in;go_wp2;go_step3;go_wp2_with (first|(go_at_call 189;refine hn.mono ?_;rintro e w' ⟨rfl,rfl⟩)|(go_at_call 190;refine hf.mono ?_;rintro e w' ⟨rfl,rfl⟩));go_step3;go_wp2;go_loop [8,42] (fun u v=>∃t:Nat,t≤j-i∧u= .int .u8 k0∧v= .int .i64 t∧∀x,x<t→ks[i+x]?.getD 0=k0) (fun _ v=>(j-i)-(intOf v).toNat);case atStart=>exact⟨0,Nat.zero_le _,rfl,rfl,fun _ h=>absurd h (by omega)⟩
 case round=>
  obtain⟨t,ht,rfl,rfl,hall⟩:=hrel;have HA:=hid hall;clear hall;by_cases hlt:t<j-i
  ·have hc1:=H.row.cell (i+t)
   rw[bytes_get _ _ (by omega)]at hc1;generalize hk1:ks[i+t]?.getD 0=k1 at hc1;have K1:=hid hk1;clear hk1;by_cases hkk:k1=k0
   ·subst hkk
    go_wp2;go_round
    case rel=>exact⟨t+1,by omega,rfl,by go_num,fun x hx=>by
     by_cases hxt:x<t
     ·exact HA.out x hxt
     ·rw[show x=t by omega];exact K1.out⟩
    case measure=>simp[intOf];omega
   ·have e0:((k1:Int) !=k0)=true:=by simp;omega
    go_wp2;go_ret;exact⟨zao (by rw[zcj,zci ks i j t hlt (by rw[K1.out,K0.out];exact hkk)];rfl),rfl⟩
  ·go_wp2
   go_ret;have e:oneK ks i j=true:=zch ks i j (fun x hx=>by rw[HA.out x (by omega)];exact K0.symm);exact⟨zao (by rw[zcj,e,K0.out];rfl),rfl⟩
theorem zcn(w:World)(p b:Nat)(ks:List Nat)(lk ft x y:Int)(h:IsW w p b ks lk ft):Calls prog 92 #[some p,x,y] w (zR (zck ks x y) fun w'=>w=w'):=by
 unfold zck;by_cases hb:y<1∨zb5 (4*ks.length) x y=false
 ·rw[if_pos hb];exact zcl w p b ks lk ft x y h hb
 ·rw[if_neg hb]
  exact zcm w p b ks lk ft x y h (by omega) (by cases hf:zb5 (4*ks.length) x y<;>simp_all)
def mayL(ks:List Nat)(x wd k:Int):Bool:=decide ((wd=1∨wd=2∨wd=4∨wd=8)∧x %wd=0∧k≠0∧(zck ks x wd:Int)=k)
theorem zco(x:Int)(n:Nat):(x.tmod n=0)↔(x %n=0):=by
 rw[←Int.dvd_iff_tmod_eq_zero,←Int.dvd_iff_emod_eq_zero]
theorem zcp(w:World)(p b:Nat)(ks:List Nat)(lk ft x k:Int)(n:Nat)(hn:n=1∨n=2∨n=4∨n=8)(h:IsW w p b ks lk ft):Calls prog 281 #[some p,x,n,k] w (zR (.bool (mayL ks x n k)) fun w'=>w=w'):=by
 have hk:=zcn w p b ks lk ft x n h;have hb:bits .and .i64 (n:Int) ((n:Int)-1)=0:=by rcases hn with rfl|rfl|rfl|rfl<;>decide
 have hm:=zco x n;have H:(n:Int)=1∨(n:Int)=2∨(n:Int)=4∨(n:Int)=8:=by omega
 by_cases ht:(x.tmod n !=0)=true
 ·go_in
  go_wp2_with (go_at_call 92;refine hk.mono ?_;rintro e w' ⟨rfl,rfl⟩);go_ret;exact⟨zan (fun hh=>by simp at ht;exact ht (hm.2 hh.2.1)),rfl⟩
 ·rw[Bool.not_eq_true]at ht
  by_cases hk0:k=0
  ·go_in
   go_wp2_with (go_at_call 92;refine hk.mono ?_;rintro e w' ⟨rfl,rfl⟩);go_ret;exact⟨zan (fun hh=>hh.2.2.1 hk0),rfl⟩
  ·have hkb:(k !=0)=true:=by simpa using hk0
   go_in;go_wp2_with (go_at_call 92;refine hk.mono ?_;rintro e w' ⟨rfl,rfl⟩);go_ret;refine⟨?_,rfl⟩;have hx:x %n=0:=hm.1 (by simpa using ht)
   have:mayL ks x n k=((zck ks x n:Int)==k):=by
    unfold mayL;rw[Bool.eq_iff_iff,decide_eq_true_iff,beq_iff_eq];exact⟨fun hh=>hh.2.2.2,fun hh=>⟨H,hx,hk0,hh⟩⟩
   rw[this];rfl
theorem zcq(w:World)(p b:Nat)(ks:List Nat)(lk ft x k n:Int)(hn:¬(n=1∨n=2∨n=4∨n=8)):Calls prog 281 #[some p,x,n,k] w (zR (.bool (mayL ks x n k)) fun w'=>w=w'):=by
 have hr:mayL ks x n k=false:=decide_eq_false fun hh=>hn hh.1;rw[hr];by_cases h1:n<1
 ·go_in
  go_wp2;go_ret;exact⟨rfl,rfl⟩
 by_cases h8:8<n
 ·go_in
  go_wp2;go_ret;exact⟨rfl,rfl⟩
 have h9:n=3∨n=5∨n=6∨n=7:=by omega
 have hb:(bits .and .i64 n (n-1) !=0)=true:=by rcases h9 with rfl|rfl|rfl|rfl<;>decide
 clear hn hr h9;go_in;go_wp2;go_ret;exact⟨rfl,rfl⟩
theorem zcr(w:World)(p b:Nat)(ks:List Nat)(lk ft x n k:Int)(h:IsW w p b ks lk ft):Calls prog 281 #[some p,x,n,k] w (zR (.bool (mayL ks x n k)) fun w'=>w=w'):=by
 by_cases hn:n=1∨n=2∨n=4∨n=8
 ·obtain⟨m,rfl⟩:∃m:Nat,n=m:=⟨n.toNat,by omega⟩
  exact zcp w p b ks lk ft x k m (by omega) h
 ·exact zcq w p b ks lk ft x k n hn
theorem IsW.setLk{w:World}{p b:Nat}{ks:List Nat}{lk ft:Int}(h:IsW w p b ks lk ft)(v:Int):IsW (w.setCell ⟨p,1,none⟩ (.int .i64 v)) p b ks v ft:=
 ⟨h.st.set 1 _,h.row.far (p:=⟨p,1,none⟩) h.ne.symm _,h.len,h.le⟩
theorem IsW.setFt{w:World}{p b:Nat}{ks:List Nat}{lk ft:Int}(h:IsW w p b ks lk ft)(v:Int):IsW (w.setCell ⟨p,2,none⟩ (.int .i64 v)) p b ks lk v:=
 ⟨h.st.set 2 _,h.row.far (p:=⟨p,2,none⟩) h.ne.symm _,h.len,h.le⟩
theorem zcs(w:World)(p b:Nat)(ks:List Nat)(lk ft x n k:Int)(h:IsW w p b ks lk ft):Calls prog 208 #[some p,x,n,k] w fun e w'=>
   e= .returned (.bool (mayL ks x n k))∧(∃lk',IsW w' p b ks lk' (if mayL ks x n k then ft else wrap64 (ft+1)))∧Fr [p] w w':=by
 have hn:=zb3 w p b _ _ (h.st.cell 0);have hc:=h.st.cell 1;have hf:=h.st.frozen 1;have hlk:=IntWalk.i64_left (lk+1);have H1:=h.setLk (wrap64 (lk+1));have hft:=IntWalk.i64_left (ft+1);have H2:=(h.setLk (wrap64 (lk+1))).setFt (wrap64 (ft+1));generalize wrap64 (lk+1)=lk' at*;generalize wrap64 (ft+1)=ft' at*;have hm:=zcr _ p b ks _ _ x n k H1;have hc2:=h.st.cell 2;have hf2:=h.st.frozen 2;have HF1:Fr [p] w (w.setCell ⟨p,1,none⟩ (.int .i64 lk')):=(Fr.refl _ _).setCell (.inl (by simp)) _;have HF2:Fr [p] w ((w.setCell ⟨p,1,none⟩ (.int .i64 lk')).setCell ⟨p,2,none⟩ (.int .i64 ft')):=((Fr.refl _ _).setCell (.inl (by simp)) _).setCell (.inl (by simp)) _;clear h;cases hmm:mayL ks x n k
 ·rw[hmm]at hm
  clear hmm;go_in;go_wp2_with (first|(go_at_call 189;refine hn.mono ?_;rintro e w' ⟨rfl,rfl⟩)|(go_at_call 281;refine hm.mono ?_;rintro e w' ⟨rfl,rfl⟩));go_ret;exact⟨rfl,⟨_,H2⟩,HF2⟩
 ·rw[hmm]at hm
  clear hmm;go_in;go_wp2_with (first|(go_at_call 189;refine hn.mono ?_;rintro e w' ⟨rfl,rfl⟩)|(go_at_call 281;refine hm.mono ?_;rintro e w' ⟨rfl,rfl⟩));go_ret;exact⟨rfl,⟨_,H1⟩,HF1⟩
def zct(v:Nat)(w:Int):Bool:=widB w&&decide (v<256^w.toNat)
theorem zcu(w:World)(v:Nat)(hv:v<18446744073709551616)(n:Int):Calls prog 154 #[.int .u64 v,n] w (zN (.bool (zct v n)) w):=by
 have hw:=fun w=>za4 w n;by_cases h8:n=8
 ·subst h8
  have e:zct v 8=true:=by
   simp[zct,widB];exact hv
  rw[e];clear e hw;go_in;go_wp2;go_ret;exact⟨rfl,Fr.refl _ _⟩
 have b8:(n==8)=false:=by simpa using h8
 unfold zct;rcases hB:widB n with _|_
 ·rw[hB]at hw
  rw[Bool.false_and];clear hB h8;go_in;go_wp2_with (go_at_call 258;with_reducible refine(hw _).mono ?_;rintro e w' ⟨rfl,rfl⟩);go_ret;exact⟨rfl,Fr.refl _ _⟩
 ·rw[hB]at hw
  obtain⟨k,rfl,hk⟩:=za7 hB;have hk8:k≤7:=by omega
  have hp:(2:Nat)^(8*k)=256^k:=by rw[Nat.pow_mul]
  have hq:((v:Int)/2^(8*k)==0)=decide (v<256^k):=by
   have e1:((v:Int)/2^(8*k))=((v/256^k:Nat):Int):=by
    rw[←hp];push_cast;rfl
   rw[e1,Bool.eq_iff_iff,beq_iff_eq,decide_eq_true_eq];rw[show((v/256^k:Nat):Int)=0↔v/256^k=0 by omega];rw[Nat.div_eq_zero_iff];have:0<256^k:=Nat.pow_pos (by decide);omega
  rw[Bool.true_and,Int.toNat_natCast];cases hd:decide (v<256^k)
  all_goals
   rw[hd]at hq
   have hq':((v/256^k:Nat):Int)=(v:Int)/2^(8*k):=by
    rw[←hp];push_cast;rfl
   clear hB h8 hd hk hp hq';go_in;go_wp2_with (go_at_call 258;with_reducible refine(hw _).mono ?_;rintro e w' ⟨rfl,rfl⟩);go_ret;exact⟨rfl,Fr.refl _ _⟩
def zcv(n:Int):Bool:=decide (16≤n∧n≤1048576∧n %16=0)
theorem zcw(w:World)(n:Int):Calls prog 150 #[n] w (zE (.bool (zcv n)) w):=by
 by_cases h1:16≤n
 ·by_cases h2:n≤1048576
  ·have e:zcv n=(n %16==0):=by
    rw[zcv,Bool.eq_iff_iff,decide_eq_true_eq,beq_iff_eq];omega
   rw[e];clear e;go_in;go_wp2;go_ret;exact⟨rfl,rfl⟩
  ·have e:zcv n=false:=by simp[zcv];omega
   rw[e];clear e;go_in;go_wp2;go_ret;exact⟨rfl,rfl⟩
 ·have e:zcv n=false:=by simp[zcv];omega
  rw[e];clear e;go_in;go_wp2;go_ret;exact⟨rfl,rfl⟩
theorem zcx(w:World)(p:Nat)(b n c:Nat)(h:w.cell? ⟨p,0,none⟩=some (.slice (some ⟨b,0,none⟩) n c)):Calls prog 152 #[some p] w (zE false w):=by
 have e1:=fun(w:World)=>Lib.run_eql_slice_nil (P:=prog) w 49 5 (some ⟨b,0,none⟩) n c 0 0 underlying49;go_in;go_wp2;go_ret;exact⟨rfl,rfl⟩
theorem IsA.none{w:World}{p g cap:Nat}{l:List Nat}(h:IsA w p g cap l):Calls prog 152 #[some p] w (zE false w):=
 zcx w p g l.length cap (h.st.cell 0)
theorem zcy(w:World)(n:Nat)(h:zcv n=true):Calls prog 70 #[n] w fun e w'=>∃p g,e= .returned (some p)∧IsA w' p g n (List.replicate n 0)∧w.heap.size≤p∧w.heap.size≤g∧Fr [] w w':=by
 have hm:=fun w=>zcw w n;have hn:n≤1048576:=by simp[zcv]at h;omega
 rw[h]at hm;have hmk:=zae (P:=prog) 49 5 underlying49 zaz .i64 .i64 n (by omega);clear h;go_in;go_wp2_with (go_at_call 150;with_reducible refine(hm _).mono ?_;rintro e w' ⟨rfl,rfl⟩);go_ret;refine⟨w'.heap.size+1,w'.heap.size,rfl,⟨?_,?_,fun b hb=>by rw[List.eq_of_mem_replicate hb];omega,by simp;omega⟩,by omega,by omega,((Fr.refl [] _).alloc _).alloc _⟩
 ·have:=Blk.new (w'.alloc (.cells (bytes (List.replicate n 0)) 5)) 212 #[.slice (some ⟨w'.heap.size,0,none⟩) n n]
  rw[World.size_alloc]at this;rw[List.length_replicate];exact this
 ·have:=(RowB.of (Blk.new w' 5 (bytes (List.replicate n 0)))).alloc (.cells #[.slice (some ⟨w'.heap.size,0,none⟩) n n] 212)
  rw[List.length_replicate]at this;exact this
theorem zcz(w:World)(p g cap:Nat)(l:List Nat)(h:IsA w p g cap l)(x wd:Int):Calls prog 209 #[some p,x,wd] w (zE (.tuple #[.int .u64 (ldV l x wd),(za6 l.length x wd)]) w):=by
 have hn:=h.none;have hc:=h.st.cell 0;have hl:=fun W (hb:Byt W (some ⟨g,0,none⟩) l)=>zbc W (some ⟨g,0,none⟩) cap l hb x wd;have hb:=h.byt;generalize ldV l x wd=v at*;generalize za6 l.length x wd=e at*;simp at hc;clear h;go_in;go_wp2_with fail;go_call hn as e w' ⟨rfl,rfl⟩;go_wp2_with fail;go_call hl _ hb as e w' ⟨rfl,rfl⟩;go_wp2;go_ret2;exact⟨rfl,rfl⟩
def putE(l:List Nat)(x wd:Int)(v:Nat):Nat:=if za6 l.length x wd≠2∧zct v wd=false then 2 else za6 l.length x wd
def putL(l:List Nat)(x wd:Int)(v:Nat):List Nat:=if putE l x wd v=0 then zap l x.toNat v wd.toNat else l
theorem zc0(w:World)(p g cap:Nat)(l:List Nat)(h:IsA w p g cap l)(x wd:Int)(v:Nat)(hv:v<18446744073709551616)(hE:putE l x wd v≠0):Calls prog 72 #[some p,x,wd,.int .u64 v] w (zN (putE l x wd v) w):=by
 have hn:=h.none;have hc:=h.st.cell 0;have hl:=zbc w (some ⟨g,0,none⟩) cap l h.byt x wd;have hf:=fun w=>zcu w v hv wd;unfold putE at hE⊢;generalize ldV l x wd=r at*;generalize za6 l.length x wd=e at*;simp at hc;clear h;generalize l.length=n at*;by_cases h2:e=2
 ·subst h2
  rw[if_neg (by simp)];clear hE hf;go_in;go_wp2_with fail;go_call hn as e w' ⟨rfl,rfl⟩;go_wp2_with fail;go_call hl as e w' ⟨rfl,rfl⟩;go_wp2;go_ret;exact⟨rfl,Fr.refl _ _⟩
 ·have b2:((e:Int) !=2)=true:=by simp;omega
  generalize zct v wd=f at*;cases f
  ·rw[if_pos ⟨h2,rfl⟩]
   clear hE h2;go_in;go_wp2_with fail;go_call hn as e w' ⟨rfl,rfl⟩;go_wp2_with fail;go_call hl as e w' ⟨rfl,rfl⟩;go_wp2_with fail;go_call hf _ as e w2 ⟨rfl,f2⟩;go_wp2;go_ret;exact⟨rfl,f2⟩
  ·rw[if_neg (by simp)]at hE⊢
   have b0:((e:Int) !=0)=true:=by simp;omega
   clear hE h2;go_in;go_wp2_with fail;go_call hn as e w' ⟨rfl,rfl⟩;go_wp2_with fail;go_call hl as e w' ⟨rfl,rfl⟩;go_wp2_with fail;go_call hf _ as e w2 ⟨rfl,f2⟩;go_wp2;go_ret;exact⟨rfl,f2⟩
theorem zc1(n j:Nat):IntKind.u8.wrap ((n:Int)/2^(8*j))=((n/256^j %256:Nat):Int):=by
 have:IntKind.u8.wrap ((n:Int)/2^(8*j))=((n:Int)/2^(8*j)) %256:=rfl;rw[this,show(256:Nat)^j=2^(8*j)by rw[Nat.pow_mul]];rw[Int.natCast_emod,Int.natCast_ediv,Int.natCast_pow];rfl
theorem zc2(w:World)(p g cap:Nat)(l:List Nat)(h:IsA w p g cap l)(x k v:Nat)(hk:k≤8)(hx:x+k≤l.length)(hv:v<18446744073709551616)(r:Nat)
  (hl:Calls prog 153 #[.slice (some ⟨g,0,none⟩) l.length cap,x,k] w (zE (.tuple #[.int .u64 r,(0:Int)]) w)) (hf:zct v k=true):
  Calls prog 72 #[some p,x,k,.int .u64 v] w (zR (0:Int) fun w'=>IsA w' p g cap (zap l x v k)∧Fr [g] w w'):=by
 have hn:=h.none;have hc:=h.st.cell 0;have hft:=fun w=>zcu w v hv k;rw[hf]at hft;have hlen:=h.len;simp at hc;generalize hln:l.length=n at*;have HLN:=hid hln;clear hf hln;go_in;go_wp2_with fail;go_call hn as e w' ⟨rfl,rfl⟩;go_wp2_with fail;go_call hl as e w' ⟨rfl,rfl⟩;go_wp2_with fail;go_call hft _ as e w2 ⟨rfl,f2⟩;have hA2:=h.fr f2 (by simp) (by simp);have hF2:=f2;clear hn hl hft hc f2;go_wp2;go_loopw [36] (fun u W=>∃j:Nat,j≤k∧u= .int .i64 j∧IsA W p g cap (zap l x v j)∧Fr [g] w' W) (fun u _=>k-(intOf u).toNat);case atStart=>exact⟨0,by omega,rfl,hA2,hF2.mono (fun _ hm=>by simp at hm)⟩
 case round=>
  clear hA2 hF2;obtain⟨j,hj,rfl,hA,hF⟩:=hrel;by_cases hlt:j<k
  ·have hs:=h.st
   have hst:=hA.st.cell 0;simp at hst;rw[zaq,HLN.out]at hst;have hi:x+j<n:=by omega
   have hU:=zc1 v j;have hgc:=hA.row.cell (x+j) (by rw[zaq,HLN.out];exact hi);have hgf:=hA.row.frozen (x+j);generalize(zap l x v j)[x+j]?.getD 0=old at*;have h64:j≤7:=by omega
   have HS:=hid (show zap l x v (j+1)=(zap l x v j).set (x+j) (v/256^j %256)from rfl);clear hs;go_wp2_with fail;go_region;go_wp2;have hv2:((v:Int)/256^j %256)=((v/256^j %256:Nat):Int):=by rw[Int.natCast_emod,Int.natCast_ediv,Int.natCast_pow];rfl
   rw[hv2];refine⟨⟨j+1,by omega,by go_num,?_,(hF.setCell (.inl (by simp)) _).drew⟩,by simp[intOf];omega⟩;have:=hA.set (x+j) (v/256^j %256) (by rw[zaq,HLN.out];exact hi) (Nat.mod_lt _ (by decide));rw[HS.out];exact this.fr (S:= []) (Fr.refl _ _).drew (by simp) (by simp)
  ·obtain rfl:j=k:=by omega
   go_wp2;go_ret;exact⟨rfl,hA,hF⟩
theorem zc3(w:World)(p g cap:Nat)(l:List Nat)(h:IsA w p g cap l)(x wd:Int)(v:Nat)(hv:v<18446744073709551616):Calls prog 72 #[some p,x,wd,.int .u64 v] w (zR (putE l x wd v) fun w'=>IsA w' p g cap (putL l x wd v)∧Fr [g] w w'):=by
 by_cases hE:putE l x wd v=0
 ·have hE2:=hE
  unfold putE at hE2
  have hP:za6 l.length x wd=0∧zct v wd=true:=by
   by_cases hc:za6 l.length x wd≠2∧zct v wd=false
   ·rw[if_pos hc]at hE2;omega
   ·rw[if_neg hc]at hE2
    refine⟨hE2,?_⟩;rcases e:zct v wd with _|_
    ·exact absurd ⟨by omega,e⟩ hc
    ·rfl
  have hl:=zbc w (some ⟨g,0,none⟩) cap l h.byt x wd;rw[hP.1]at hl;have hp:=hP.1;unfold za6 at hp;rcases hB:widB wd with _|_
  ·rw[hB]at hp;simp at hp
  ·obtain⟨k,rfl,hk⟩:=za7 hB
   rw[hB]at hp;simp only[Bool.true_eq_false,if_false]at hp;by_cases h1:x<0∨(l.length:Int)<x∨(l.length:Int)-x<k
   ·rw[if_pos h1]at hp;simp at hp
   ·obtain⟨y,rfl⟩:∃y:Nat,x=y:=⟨x.toNat,by omega⟩
    unfold putL;rw[hE,if_pos rfl,Int.toNat_natCast,Int.toNat_natCast];exact zc2 w p g cap l h y k v (by omega) (by omega) hv _ hl hP.2
 ·unfold putL
  rw[if_neg hE];exact(zc0 w p g cap l h x wd v hv hE).mono fun e w' ⟨he,hf⟩=>⟨he,h.fr hf (by simp) (by simp),hf.mono (fun _ hm=>by simp at hm)⟩
def zc4(w:World)(l:List Nat)(nil:Bool)(e:Ending)(w':World):Prop:=
 ∃v,e= .returned v∧OwnB w' w.heap.size v l∧(nil=true→v= .slice none 0 0)∧(nil=false→v≠ .slice none 0 0)∧Fr [] w w'
theorem zc5(w:World)(a:Option Addr)(c:Nat)(l:List Nat)(h:Byt w a l):Calls prog 142 #[.slice a l.length c] w (zc4 w l a.isNone):=by
 have e1:=fun(w:World) (a:Option Addr) (n:Nat)=>Lib.run_eql_slice_nil (P:=prog) w 49 5 a n c 0 0 underlying49;have hlen:=h.len;rcases a with _|ad
 ·have hl:l= [] :=by
   rcases l with _|⟨x,l⟩
   ·rfl
   ·obtain⟨g,o,e,_⟩:=h.at_ 0 (by simp)
    cases e
  subst hl;have HP:=show zc4 w [] (none:Option Addr).isNone (.returned (.slice none 0 0)) w from⟨_,rfl,OwnB.nil _ _,fun _=>rfl,fun h=>by simp at h,Fr.refl _ _⟩;generalize zc4 w [] (none:Option Addr).isNone=P at*;clear h;go_in;go_wp2;exact HP
 ·have HP:=show∀v w',OwnB w' w.heap.size v l→v≠ .slice none 0 0→Fr [] w w'→zc4 w l (some ad:Option Addr).isNone (.returned v) w' from fun v w' h1 h2 h3=>⟨v,rfl,h1,fun h=>by simp at h,fun _=>h2,h3⟩
  generalize zc4 w l (some ad:Option Addr).isNone=P at*;have hO:OwnB (w.alloc (.cells #[] 5)) w.heap.size (.slice (some ⟨w.heap.size,0,none⟩) 0 0) [] :=OwnB.made (Nat.le_refl _) (Blk.new w _ _) (by simp);have hby:=h.fr (S:= []) ((Fr.refl [] w).alloc (.cells #[] 5)) (by simp);generalize hn:l.length=n at*;have HN:=hid hn;clear h hn;have e2:=fun w n=>e1 w (some ad) n;simp only[Option.isNone]at e2;clear e1;go_in;go_wp2_with (at_builtin;refine zbh rfl _ _ rfl rfl w.heap.size _ [] rfl hO _ _ _ l HN.out rfl hby (by rw[HN.out];simpa using hlen) (by simp) ?_;intro v1 W1 hO1 hgr1 hob1);rw[List.nil_append]at hO1;refine HP _ _ hO1 ?_ (hO.fr hgr1 ((Fr.refl [] w).alloc _) (Nat.le_refl _));obtain⟨h1,⟨h2,h3⟩|⟨g,cap,cur,h2,_⟩⟩:=hO1
  ·rw[h2]at hob1
   rcases hob1 with h|h<;>cases h
  ·rw[h2]
   intro h;cases h
theorem OwnB.slice{w:World}{base:Nat}{v:Value}{l:List Nat}(h:OwnB w base v l)(hv:v≠ .slice none 0 0):∃g cap,v= .slice (some ⟨g,0,none⟩) l.length cap∧base≤g∧RowB w g cap l:=by
 obtain⟨_,⟨h2,_⟩|⟨g,cap,cur,rfl,hg,hh,hc,_,hs,ht⟩⟩:=h
 ·exact absurd h2 hv
 ·refine⟨g,cap,rfl,hg,cur,hh,by simpa using hs,by simpa using hc,fun i hi=> ?_⟩
  have h3:(cur.toList.take (l.length*1))[i]?=(zbd l)[i]?:=by rw[ht]
  rw[List.getElem?_take_of_lt (by omega),Array.getElem?_toList]at h3;rw[h3,zbd,List.getElem?_map,List.getElem?_eq_getElem hi];rfl
theorem zc6(w:World)(p g cap:Nat)(l:List Nat)(h:IsA w p g cap l):Calls prog 262 #[some p] w (zE l.length w):=by
 have hn:=h.none;have hc:=h.st.cell 0;simp at hc;generalize l.length=n at*;clear h;go_in;go_wp2_with fail;go_call hn as e w' ⟨rfl,rfl⟩;go_wp2;go_ret;exact⟨rfl,rfl⟩
def zc7(x m:Nat):Nat:=if m=0 then 0 else x
theorem zc8(w:World)(p g cap:Nat)(l:List Nat)(h:IsA w p g cap l)(x m:Nat)(hE:x+m≤l.length):Calls prog 270 #[some p,x,m] w fun e w'=>e= .returned (.tuple #[.slice (some ⟨g,zc7 x m,none⟩) m m,(0:Int)])∧w'=w:=by
 have hn:=h.none;have hc:=h.st.cell 0;have hlen:=h.len;have hcap:=h.row.le;simp at hc;unfold zc7;generalize l.length=n at*;clear h;have b1:=dF ((x:Int)<0);have b2:=dF ((m:Int)<0);have b3':=dF (n<x);have b4:=dF ((n:Int)-x<m);go_enter func270,ntmps270;go_wp2_with fail;go_call hn as e w' ⟨rfl,rfl⟩;go_wp2_with fail
 all_goals
  go_ret2;exact⟨rfl,rfl⟩
def spl(l:List Nat)(o:Nat)(m:List Nat):List Nat:=l.take o++m++l.drop (o+m.length)
theorem zda(l:List Nat)(o:Nat)(m:List Nat)(h:o+m.length≤l.length):(spl l o m).length=l.length:=by simp[spl];omega
theorem zdb(l:List Nat)(o:Nat)(m:List Nat)(h:o+m.length≤l.length)(i:Nat):(spl l o m)[i]?.getD 0=if o≤i∧i<o+m.length then m[i-o]?.getD 0 else l[i]?.getD 0:=by
 unfold spl;by_cases h1:i<o
 ·rw[if_neg (by omega),List.getElem?_append_left (by simp;omega),List.getElem?_append_left (by simp;omega),List.getElem?_take_of_lt h1]
 ·by_cases h2:i<o+m.length
  ·rw[if_pos (by omega),List.getElem?_append_left (by simp;omega),List.getElem?_append_right (by simp;omega)]
   simp only[List.length_take];rw[Nat.min_eq_left (by omega)]
  ·rw[if_neg (by omega),List.getElem?_append_right (by simp;omega),List.getElem?_drop]
   congr 2;simp only[List.length_append,List.length_take];omega
theorem zdc(l:List Nat)(o:Nat)(m:List Nat)(hl:∀b∈l,b<256)(hm:∀b∈m,b<256):∀b∈spl l o m,b<256:=by
 intro b hb;unfold spl at hb;rcases List.mem_append.1 hb with hb|hb
 ·rcases List.mem_append.1 hb with hb|hb
  ·exact hl b (List.mem_of_mem_take hb)
  ·exact hm b hb
 ·exact hl b (List.mem_of_mem_drop hb)
theorem RowB.setCells{w:World}{g cap:Nat}{l:List Nat}(h:RowB w g cap l)(o:Nat)(m:List Nat)(ho:o+m.length≤l.length):RowB (w.setCells g o (zbd m)) g cap (spl l o m):=by
 obtain⟨cur,hb,hs,hl,hc⟩:=h;refine⟨_,hb.setCells (zbd m) o,by rw[zag,hs],by rw[zda _ _ _ ho];exact hl,fun i hi=> ?_⟩;rw[zda _ _ _ ho]at hi;have hcl:(zbd m).length=m.length:=by simp[zbd]
 rw[zah _ _ _ (by rw[hcl];omega),hcl,zdb _ _ _ ho];by_cases h1:o≤i∧i<o+m.length
 ·rw[if_pos h1,if_pos h1,zbd,List.getElem?_map,List.getElem?_eq_getElem (by omega)];rfl
 ·rw[if_neg h1,if_neg h1];exact hc i hi
theorem IsA.setCells{w:World}{p g cap:Nat}{l:List Nat}(h:IsA w p g cap l)(o:Nat)(m:List Nat)(ho:o+m.length≤l.length)(hm:∀b∈m,b<256):IsA (w.setCells g o (zbd m)) p g cap (spl l o m):=by
 refine⟨?_,h.row.setCells o m ho,zdc l o m h.byte hm,by rw[zda _ _ _ ho];exact h.len⟩;rw[zda _ _ _ ho];exact h.st.setCells_far h.ne _ _
theorem zdd(w:World)(p g cap:Nat)(l:List Nat)(h:IsA w p g cap l)(x m:Nat)(hE:x+m≤l.length):Calls prog 188 #[some p,x,m] w (zE (.tuple #[.slice (some ⟨g,zc7 x m,none⟩) m m,(0:Int)]) w):=by
 have hp:=zc8 w p g cap l h x m hE;clear h;generalize zc7 x m=o at*;go_in;go_wp2_with fail;go_call hp as e w' ⟨rfl,rfl⟩;go_wp2;go_ret2;exact⟨rfl,rfl⟩
theorem IsA.part{w:World}{p g cap:Nat}{l:List Nat}(h:IsA w p g cap l)(x m:Nat)(hE:x+m≤l.length):Byt w (some ⟨g,zc7 x m,Option.none⟩) ((l.drop x).take m):=by
 refine⟨fun i hi=> ?_,fun b hb=>h.byte b (List.mem_of_mem_drop (List.mem_of_mem_take hb)),by have:=h.len;simp;omega⟩;simp at hi;refine⟨g,zc7 x m,rfl,?_,h.row.lt⟩;have:zc7 x m=x:=by unfold zc7;rw[if_neg (by omega)]
 rw[this,h.row.cell _ (by omega),List.getElem?_take_of_lt (by omega),List.getElem?_drop]
def zde(w:World)(l:List Nat)(v:Value)(w':World):Prop:= ∃g cap,v= .slice (some ⟨g,0,none⟩) l.length cap∧w.heap.size≤g∧RowB w' g cap l∧Fr [] w w'
theorem zdf(w:World)(ad:Addr)(c:Nat)(l:List Nat)(h:Byt w (some ad) l):Calls prog 142 #[.slice (some ad) l.length c] w fun e w'=>∃v,e= .returned v∧zde w l v w':=
 (zc5 w (some ad) c l h).mono fun e w' ⟨v,he,hO,_,hv,hf⟩=>by
  obtain⟨g,cap,e1,hg,hr⟩:=hO.slice (hv rfl);exact⟨v,he,g,cap,e1,hg,hr,hf⟩
theorem zdg(w:World)(p g cap:Nat)(l:List Nat)(h:IsA w p g cap l)(x m:Nat)(hE:x+m≤l.length):Calls prog 252 #[some p,x,m] w fun e w'=>∃v,e= .returned (.tuple #[v,(0:Int)])∧zde w ((l.drop x).take m) v w':=by
 have hp:=zc8 w p g cap l h x m hE;have hb:=h.part x m hE;have hl:((l.drop x).take m).length=m:=by simp;omega
 have hc:=zdf w ⟨g,zc7 x m,none⟩ m _ hb;rw[hl]at hc;generalize zc7 x m=o at*;generalize(l.drop x).take m=ms at*;clear h hb hl;go_in;go_wp2_with fail;go_call hp as e w' ⟨rfl,rfl⟩;go_wp2_with fail;go_call hc as e w1 ⟨v,rfl,f1⟩;go_wp2;go_ret2;exact⟨v,rfl,f1⟩
theorem zdh(w:World):(zeroValue 5).run prog w= .ok (.int .u8 0) w:=by kernel_rfl
theorem zdi(w:World)(p g cap:Nat)(l:List Nat)(h:IsA w p g cap l)(x m:Nat)(hE:x+m≤l.length):Calls prog 264 #[.slice (some ⟨g,zc7 x m,none⟩) m m] w (zR (.tuple #[]) fun w'=>IsA w' p g cap (spl l x (List.replicate m 0))∧Fr [g] w w'):=by
 have hw:IsA (w.setCells g (zc7 x m) (List.replicate m (.int .u8 0))) p g cap (spl l x (List.replicate m 0)):=by
  have:=h.setCells (zc7 x m) (List.replicate m 0) (by unfold zc7;rw[List.length_replicate];split<;>omega) (by simp);have e:zbd (List.replicate m 0)=List.replicate m (.int .u8 0):=by simp[zbd]
  rw[e]at this
  have e2:spl l (zc7 x m) (List.replicate m 0)=spl l x (List.replicate m 0):=by
   unfold zc7;split
   ·next hm=>subst hm;simp[spl]
   ·rfl
  rw[e2]at this;exact this
 have hf:Fr [g] w (w.setCells g (zc7 x m) (List.replicate m (.int .u8 0))):=(Fr.refl _ _).setCells (.inl (by simp)) _ _
 have hcl:∀ty,(Builtin.clear_ #[49] ty #[.slice (some ⟨g,zc7 x m,none⟩) m m]).run prog w= .ok (.tuple #[]) (w.setCells g (zc7 x m) (List.replicate m (.int .u8 0))):=fun ty=>by
  by_cases h0:m=0
  ·subst h0
   simp[Builtin.clear_,run_underlying underlying49,World.setCells]
  ·exact Lib.run_clear_slice w 49 5 ty (.int .u8 0) underlying49 zdh rfl rfl g (zc7 x m) m m (by omega)
    (fun j hj=>by rw[h.row.cell (zc7 x m+j) (by unfold zc7;split<;>omega)];rfl) (fun j _=>h.row.frozen _)
 generalize spl l x (List.replicate m 0)=l' at*;generalize zc7 x m=o at*;generalize w.setCells g o (List.replicate m (.int .u8 0))=w1 at*;clear h;go_in;go_wp2;go_end0;exact⟨rfl,hw,hf⟩
theorem zdj(w:World)(p g cap:Nat)(l:List Nat)(h:IsA w p g cap l)(x m:Nat)(hE:x+m≤l.length):Calls prog 162 #[some p,x,m] w (zR (0:Int) fun w'=>IsA w' p g cap (spl l x (List.replicate m 0))∧Fr [g] w w'):=by
 have hp:=zc8 w p g cap l h x m hE;have hz:=zdi w p g cap l h x m hE;generalize spl l x (List.replicate m 0)=l' at*;generalize zc7 x m=o at*;clear h
 have hw:Calls prog 263 #[some p,x,m,.func (.func 264) #[] #[]] w (zR (0:Int) fun w'=>IsA w' p g cap l'∧Fr [g] w w'):=by
  go_in;go_wp2_with fail;go_call hp as e w' ⟨rfl,rfl⟩;go_wp2_with fail;go_call hz as e w1 ⟨rfl,h1,f1⟩;go_wp2;go_ret;exact⟨rfl,h1,f1⟩
 go_in;go_wp2_with fail;go_call hw as e w1 ⟨rfl,h1,f1⟩;go_wp2;go_ret;exact⟨rfl,h1,f1⟩
theorem zdk(w:World)(p g cap:Nat)(l:List Nat)(h:IsA w p g cap l)(x c:Nat)(a:Option Addr)(m:List Nat)(hm:Byt w a m)(hE:x+m.length≤l.length):Calls prog 282 #[.slice a m.length c,.slice (some ⟨g,zc7 x m.length,none⟩) m.length m.length] w (zR (.tuple #[]) fun w'=>IsA w' p g cap (spl l x m)∧Fr [g] w w'):=by
 have hmin:Nat.min m.length m.length=m.length:=Nat.min_self _;by_cases h0:m= []
 ·subst h0
  have e:spl l x [] =l:=by simp[spl]
  rw[e];have hcp:∀ty,(Builtin.copy_ #[49,302] ty #[.slice (some ⟨g,0,none⟩) 0 0,.slice a 0 c]).run prog w= .ok (goInt 0) w:=fun ty=>run_copy_none w _ _ ty 5 _ _ _ _ _ _ underlying49 (by kernel_rfl) (by rfl);unfold zc7;rw[if_pos (by rfl)];show Calls _ _ #[.slice a 0 c,.slice (some ⟨g,0,none⟩) 0 0] _ _;go_in;go_wp2;go_end0;exact⟨rfl,h,Fr.refl _ _⟩
 ·have hpos:0<m.length:=List.length_pos_iff.2 h0
  have hO:zc7 x m.length=x:=by unfold zc7;rw[if_neg (by omega)]
  rw[hO];obtain⟨ga,oa,ha,_⟩:=hm.at_ 0 hpos
  have hcp:∀ty,(Builtin.copy_ #[49,302] ty #[.slice (some ⟨g,x,none⟩) m.length m.length,.slice a m.length c]).run prog w= .ok (goInt m.length) (w.setCells g x (zbd m)):=fun ty=>by
   have hcl:(zbd m).length=m.length:=by simp[zbd]
   rw[ha]
   have:=run_copy_cells (P:=prog) w 49 302 ty 5 g x m.length m.length ⟨ga,oa,none⟩ m.length c (zbd m) underlying49 (by kernel_rfl) (by rw[hcl,hmin]) (fun j v hv=>by
    have hj:j<m.length:=by
     have:=(List.getElem?_eq_some_iff.1 hv).1;rw[hcl]at this;exact this
    obtain⟨g',o',e',hc',_⟩:=hm.at_ j hj;rw[ha]at e';injection e' with e';injection e' with e1 e2;subst e1 e2;have hadd:(⟨ga,oa,none⟩:Addr).add j=⟨ga,oa+j,none⟩:=by unfold Addr.add;split<;>simp_all
    rw[hadd,hc',←hv,zbd,List.getElem?_map,List.getElem?_eq_getElem hj]
    rfl) (fun j hj=>by rw[hcl]at hj;rw[h.row.cell (x+j) (by omega)];rfl) (fun j _=>h.row.frozen _) (fun v hv=>by
     obtain⟨k,_,rfl⟩:=List.mem_map.1 hv;rfl)
   rw[hcl]at this;exact this
  have HW:=h.setCells x m hE hm.byte;have HF:=show Fr [g] w (w.setCells g x (zbd m))from(Fr.refl _ _).setCells (.inl (by simp)) _ _;generalize w.setCells g x (zbd m)=w1 at*;generalize spl l x m=l' at*;generalize m.length=n at*;clear h hm ha;go_in;go_wp2;go_end0;exact⟨rfl,HW,HF⟩
theorem zdl(w:World)(p g cap:Nat)(l:List Nat)(h:IsA w p g cap l)(x c:Nat)(a:Option Addr)(m:List Nat)(hm:Byt w a m)(hE:x+m.length≤l.length):Calls prog 263 #[some p,x,m.length,.func (.func 282) #[.slice a m.length c] #[]] w (zR (0:Int) fun w'=>IsA w' p g cap (spl l x m)∧Fr [g] w w'):=by
 have hp:=zc8 w p g cap l h x m.length hE;have hz:=zdk w p g cap l h x c a m hm hE;generalize spl l x m=l' at*;generalize zc7 x m.length=o at*;generalize m.length=n at*;clear h hm;go_in;go_wp2_with fail;go_call hp as e w' ⟨rfl,rfl⟩;go_wp2_with fail;go_call hz as e w1 ⟨rfl,h1,f1⟩;go_wp2;go_ret;exact⟨rfl,h1,f1⟩
theorem zdm(w:World)(p g cap:Nat)(l:List Nat)(h:IsA w p g cap l)(x c:Nat)(a:Option Addr)(m:List Nat)(hm:Byt w a m)(hE:x+m.length≤l.length):Calls prog 212 #[some p,x,.slice a m.length c] w (zR (0:Int) fun w'=>IsA w' p g cap (spl l x m)∧Fr [g] w w'):=by
 have hz:=zdl w p g cap l h x c a m hm hE;have hlen:=hm.len;generalize spl l x m=l' at*;generalize m.length=n at*;clear h hm;go_in;go_wp2_with fail;go_call hz as e w1 ⟨rfl,h1,f1⟩;go_wp2;go_ret;exact⟨rfl,h1,f1⟩
def zdn(l:List Int):Array Value:=(l.map (Value.int .i64)).toArray
def clsT:Array Value:=zdn [0,32,48,64,96,128,192,256,384,512]
def fldT:Array Value:=zdn [8,12,16,20,24,28,32,36,40,44,48,52,56,60,64,68,72,80,84,88,92]
structure TabM(w:World):Prop where
 cls: ∀i,w.cell? ⟨2,i,none⟩=clsT[i]?
 fld: ∀i,w.cell? ⟨0,i,none⟩=fldT[i]?
 size:3≤w.heap.size
theorem TabM.fr{w w':World}{S:List Nat}(h:TabM w)(hf:Fr S w w')(hS:∀k∈S,3≤k):TabM w':=
 ⟨fun i=>(hf.cell (p:=⟨2,i,none⟩) (by have:=h.size;simp;omega) (fun hm=>by have:=hS _ hm;simp at this)).trans (h.cls i),fun i=>(hf.cell (p:=⟨0,i,none⟩) (by have:=h.size;simp;omega) (fun hm=>by have:=hS _ hm;simp at this)).trans (h.fld i),Nat.le_trans h.size hf.size⟩
theorem TabM.alloc{w:World}(h:TabM w)(o:Obj):TabM (w.alloc o):=h.fr ((Fr.refl [] w).alloc o) (by simp)
structure Cfg(a s:Nat):Prop where
 a1:7≤a
 a2:a≤64
 s1:s %2=0
 s2:32*a≤s
 s3:s≤8192
def cfgV(a s:Nat):Value:= .agg #[a,s]
theorem zdo{P:Program}(d:Nat)(xs ys:Array Value)(f:Field)(fs:List Field)(a b:Value)(r:Bool)(w:World)(hn:f.name≠ "_")(ha:∀w,(part f.type xs f.offset).run P w= .ok a w)(hb:∀w,(part f.type ys f.offset).run P w= .ok b w)
  (hr:∀w,(Op.equalIn d f.type a b).run P w= .ok r w) (s:Bool) (hs:(Op.eqFields d xs ys fs).run P w= .ok s w):(Op.eqFields d xs ys (f::fs)).run P w= .ok (r&&s) w:=by
 rw[Op.eqFields,if_pos hn];cases r<;>simp[Sem.run_bind,ha,hb,hr,hs]
theorem zdp(xs:Array Value)(i:Nat)(v:Value)(h:xs[i]?=some v)(w:World):(part 3 xs i).run prog w= .ok v w:=by
 simp[part,go_sem,h]
theorem zdq(a b c d:Int)(w:World):(Op.equalIn 10000 62 (.agg #[a,b]) (.agg #[c,d])).run prog w= .ok (a==c&&b==d) w:=by
 rw[show(10000:Nat)=9999+1 from rfl,run_equalIn_struct w 9999 62 _ _ (by kernel_rfl) (by kernel_rfl)];have hF:(prog.fieldsOf 62).toList= [⟨"Slabs",3,0,false,"","",0⟩,⟨"Slots",3,1,false,"","",8⟩] :=by kernel_rfl
 rw[hF];have hi:∀(a b:Int) (w:World),(Op.equalIn 9999 3 (.int .i64 a) (.int .i64 b)).run prog w= .ok (a==b) w:=fun a b w=>run_equalIn_int _ 9998 3 .i64 .i64 a b underlying3;refine zdo _ _ _ _ _ (.int .i64 a) (.int .i64 c) _ _ (of_decide_eq_true (by kernel_rfl)) (zdp _ _ _ rfl) (zdp _ _ _ rfl) (fun w=>hi _ _ w) _ ?_;rw[←Bool.and_true (b==d)];refine zdo _ _ _ _ _ (.int .i64 b) (.int .i64 d) _ _ (of_decide_eq_true (by kernel_rfl)) (zdp _ _ _ rfl) (zdp _ _ _ rfl) (fun w=>hi _ _ w) _ ?_;rfl
theorem zdr(w:World)(k:Nat)(hk:1≤k∧k≤9):Calls prog 228 #[k] w (zE true w):=by
 have b1:=dT ((1:Int)≤k);have b2:=dT ((k:Int)≤9);go_in;go_wp2;go_ret;exact⟨rfl,rfl⟩
theorem zds(w:World)(hM:TabM w):Calls prog 149 #[(1:Int)] w (zE (32:Int) w):=by
 have hi:∀w,Calls prog 228 #[(1:Int)] w (zE true w):=fun w=>zdr w 1 (by omega);have hc:=hM.cls 1;simp[clsT,zdn]at hc;go_in;go_wp2_with fail;go_call hi _ as e w' ⟨rfl,rfl⟩;go_wp2;go_ret;exact⟨rfl,rfl⟩
theorem zdt(w:World)(hM:TabM w)(a s:Nat)(hc:Cfg a s):Calls prog 69 #[cfgV a s] w (zN true w):=by
 obtain⟨a1,a2,s1,s2,s3⟩:=hc
 have hE:∀w,(Op.equalIn 10000 62 (.agg #[a,s]) (.agg #[(0:Int),(0:Int)])).run prog w= .ok false w:=fun w=>by
  rw[zdq,show((a:Int)==0)=false by simp;omega,Bool.false_and]
 have b1:=dF ((a:Int)<7);have b2:=dF ((64:Int)<a);have b3:((s:Int) %2==0)=true:=by simp;omega
 have b4:=dT ((a:Int)*32≤s);have b5:=dT ((s:Int)≤8192);have hB:=fun n=>zds ((w.alloc (.cells #[a,s] 62)).drewN n) ((hM.alloc _).fr ((Fr.refl [] _).drewN n) (by simp));unfold cfgV;go_in;go_wp2_with fail;go_quiet ((go_at_call 149;exact Calls.quiet_of_same (hB _)));go_wp2;go_ret;exact⟨rfl,((Fr.refl [] w).alloc _).drewN _⟩
def zdu(a:Nat):Nat:=128+16*a
def zdv(a s:Nat):Nat:=(128+16*a+4*s+15)/16*16
def zdw(a s:Nat):Nat:=zdv a s+1024*a
theorem zdx(a s:Nat)(h:Cfg a s):zdw a s≤131072:=by
 obtain⟨a1,a2,s1,s2,s3⟩:=h;unfold zdw zdv;omega
theorem zdy(a s:Nat)(h:Cfg a s):zdv a s≤65536:=by
 obtain⟨_,_,s1,s2,s3⟩:=h;unfold zdv;omega
theorem zdz(w:World)(a s:Nat)(h:Cfg a s):Calls prog 164 #[cfgV a s] w (zN (zdu a) w):=by
 have h2:=h.a2;have e:((zdu a:Nat):Int)=128+(a:Int)*16:=by unfold zdu;omega
 rw[e];unfold cfgV;go_in;go_wp2;go_ret;exact⟨rfl,(Fr.refl [] w).alloc _⟩
theorem zd0(w:World)(n:Nat)(h:n≤1048576):Calls prog 256 #[n] w (zE (.int .i64 ((n+15)/16*16:Nat)) w):=by
 have e:(((n+15)/16*16:Nat):Int)=((n:Int)+16-1)/16*16:=by omega
 rw[e];go_in;go_wp2;go_ret;exact⟨rfl,rfl⟩
theorem zd1(w:World)(hM:TabM w)(a s:Nat)(h:Cfg a s):Calls prog 151 #[cfgV a s] w (zN (zdv a s) w):=by
 have hr:=fun W h'=>zdt W h' a s h;have hs:=fun W=>zdz W a s h;have h2:=h.a2;have h3:=h.s3;have hp:=fun W=>zd0 W (zdu a+4*s) (by unfold zdu;omega);have e:(zdu a+4*s+15)/16*16=zdv a s:=by unfold zdu zdv;rfl
 rw[e]at hp;have e2:((zdu a+4*s:Nat):Int)=(zdu a:Int)+(s:Int)*4:=by omega
 rw[e2]at hp;have hsl:zdu a≤2000:=by unfold zdu;omega
 generalize zdv a s=b at*;generalize zdu a=sl at*;unfold cfgV at*;clear e e2;go_in;go_wp2_with fail;go_call hr _ (hM.alloc _) as e w1 ⟨rfl,f1⟩;have hB1:=(Blk.new w 62 #[.int .i64 a,.int .i64 s]).fr f1 (by simp);have hF1:=((Fr.refl [] w).alloc (.cells #[a,s] 62)).trans f1;have c0:=hB1.cell 0;have c1:=hB1.cell 1;simp at c0 c1;clear f1 hr;go_wp2_with fail;have hB2:=hB1.fr (zak (S:= [])) (by simp);have hF2:=hF1.drew;have u1:=i6 ((s:Int)*4);have u2:=i6 ((sl:Int)+(s:Int)*4)
 go_region_held3 (fun w'=>w'.cell? ⟨w.heap.size,0,none⟩=some (.int .i64 a)∧w'.cell? ⟨w.heap.size,1,none⟩=some (.int .i64 s)) (exact⟨c0,c1⟩)
  (first
   |(go_at_call 164;with_reducible refine(hs _).mono ?_;rintro e w3 ⟨rfl,f3⟩;have hF3:=hF2.trans f3;have hB3:=hB2.fr f3 (by simp);have c0:=hB3.cell 0;have c1:=hB3.cell 1;simp at c0 c1)
   |(go_at_call 256;with_reducible refine(hp _).mono ?_;rintro e w' ⟨rfl,rfl⟩))
 go_wp2;go_ret;exact⟨rfl,hF3⟩
theorem zd2(w:World)(hM:TabM w)(a s:Nat)(h:Cfg a s):Calls prog 71 #[cfgV a s] w (zN (zdw a s) w):=by
 have hr:=fun W h'=>zdt W h' a s h;have hb:=fun W h'=>zd1 W h' a s h;have h2:=h.a2;have hbl:=zdy a s h;have e2:((zdw a s:Nat):Int)=(zdv a s:Int)+(a:Int)*1024:=by unfold zdw;omega
 rw[e2];generalize zdv a s=b at*;unfold cfgV at*;clear e2;go_in;go_wp2_with fail;go_call hr _ (hM.alloc _) as e w1 ⟨rfl,f1⟩;have hM1:=(hM.alloc (.cells #[a,s] 62)).fr f1 (by simp);have hB1:=(Blk.new w 62 #[.int .i64 a,.int .i64 s]).fr f1 (by simp);have hF1:=((Fr.refl [] w).alloc (.cells #[a,s] 62)).trans f1;have c0:=hB1.cell 0;have c1:=hB1.cell 1;simp at c0 c1;clear f1 hr;go_wp2_with fail;have hB2:=hB1.fr (zak (S:= [])) (by simp);have hM2:=hM1.fr (zak (S:= [])) (by simp);have hF2:=hF1.drew;have u1:=i6 ((a:Int)*1024);have u2:=i6 ((b:Int)+(a:Int)*1024)
 go_region_held3 (fun w'=>w'.cell? ⟨w.heap.size,0,none⟩=some (.int .i64 a)∧w'.cell? ⟨w.heap.size,1,none⟩=some (.int .i64 s)) (exact⟨c0,c1⟩)
  (first
   |(go_at_call 151;with_reducible refine(hb _ hM2).mono ?_;rintro e w3 ⟨rfl,f3⟩;have hF3:=hF2.trans f3;have hB3:=hB2.fr f3 (by simp);have c0:=hB3.cell 0;have c1:=hB3.cell 1;simp at c0 c1))
 go_wp2;go_ret;exact⟨rfl,hF3⟩
abbrev Rn:=Nat×Nat×Nat
def zd3(l:List Rn):List Value:=l.flatMap fun r=> [.int .i64 r.1,.int .i64 r.2.1,.int .i64 r.2.2]
theorem zd4(l:List Rn)(r:Rn):zd3 (l++ [r])=zd3 l++ [.int .i64 r.1,.int .i64 r.2.1,.int .i64 r.2.2] :=by simp[zd3]
theorem zd5:∀(l:List Rn) (i:Nat) (r:Rn),l[i]?=some r→(zd3 l)[3*i]?=some (.int .i64 r.1)∧(zd3 l)[3*i+1]?=some (.int .i64 r.2.1)∧(zd3 l)[3*i+2]?=some (.int .i64 r.2.2)
 | [],i,r,h=>by simp at h
 |x::l,0,r,h=>by
  simp at h;subst h;exact⟨rfl,rfl,rfl⟩
 |x::l,i+1,r,h=>by
  have:=zd5 l i r (by simpa using h);have e:zd3 (x::l)= [.int .i64 x.1,.int .i64 x.2.1,.int .i64 x.2.2] ++zd3 l:=rfl;rw[e,List.getElem?_append_right (by simp;omega),List.getElem?_append_right (by simp;omega),List.getElem?_append_right (by simp;omega)];simp only[List.length_cons,List.length_nil];rw[show 3*(i+1)-(0+1+1+1)=3*i by omega,show 3*(i+1)+1-(0+1+1+1)=3*i+1 by omega,show 3*(i+1)+2-(0+1+1+1)=3*i+2 by omega];exact this
def OwnR(w:World)(base:Nat)(v:Value)(l:List Rn):Prop:=w.ownsRow base 220 3 v l.length (zd3 l)
def zd6(l:List Rn):Nat:=match l.getLast? with
 |some r=>r.1+r.2.1
 |none=>0
def zd7(l:List Rn)(e k:Nat):List Rn:=if zd6 l<e then l++ [(zd6 l,e-zd6 l,k)]else l
theorem zd8:(prog.info? 220).map (fun i=>(i.zero,i.size,i.bytes))=some (some (.agg #[(0:Int),(0:Int),(0:Int)]),3,24):=by kernel_rfl
theorem zd9:∃i,prog.info? 220=some i∧i.zero=some (.agg #[(0:Int),(0:Int),(0:Int)])∧i.size=3∧i.bytes=24:=by
 have h:=zd8;cases e:prog.info? 220 with
 |none=>rw[e]at h;cases h
 |some i=>
  rw[e]at h;simp at h;exact⟨i,rfl,h.1,h.2.1,h.2.2⟩
theorem zea{w0 w w':World}{base n size:Nat}{e:TypeId}{v:Value}{xs:List Value}{S:List Nat}(h:w.ownsRow base e size v n xs)(hg:w.grownBy w' v.ownBlock)(hf:Fr S w0 w)(hb:w0.heap.size≤base):Fr S w0 w':=by
 have hno:∀k,k<base→some k≠v.ownBlock:=by
  obtain⟨_,⟨rfl,_⟩|⟨g,cap,cur,rfl,hgb,_⟩⟩:=h
  ·intro k _ e;cases e
  ·intro k hk e
   injection e with e;have e2:k=g:=e;omega
 exact⟨hg.os.trans hf.os,hg.tape.trans hf.tape,hg.output.trans hf.output,Nat.le_trans hf.size hg.size,fun k hk hn=>(hg.block k (Nat.lt_of_lt_of_le hk hf.size) (hno k (by omega))).trans (hf.block k hk hn)⟩
theorem zeb{w:World}{base n size g:Nat}{e t:TypeId}{v:Value}{xs:List Value}{cs:Array Value}(h:w.ownsRow base e size v n xs)(hb:Blk w g t cs)(hne:t≠e)(i:Nat)(u:Value):(w.setCell ⟨g,i,none⟩ u).ownsRow base e size v n xs:=by
 obtain⟨h1,h2|⟨g',cap,cur,rfl,hgb,hh,h3⟩⟩:=h
 ·exact⟨h1,.inl h2⟩
 ·refine⟨h1,.inr ⟨g',cap,cur,rfl,hgb,?_,h3⟩⟩
  refine(Below.heap_setCell w ⟨g,i,none⟩ u g' ?_).trans hh;rintro rfl;unfold Blk at hb;rw[hh]at hb;injection hb with hb;injection hb with _ h4;exact hne h4.symm
theorem zec{w w':World}{base n size:Nat}{e:TypeId}{v:Value}{xs:List Value}(h:w.ownsRow base e size v n xs)(hf:Fr [] w w'):w'.ownsRow base e size v n xs:=by
 obtain⟨h1,h2|⟨g',cap,cur,rfl,hgb,hh,h3⟩⟩:=h
 ·exact⟨h1,.inl h2⟩
 ·exact⟨h1,.inr ⟨g',cap,cur,rfl,hgb,Blk.fr (S:= []) hh hf (by simp),h3⟩⟩
theorem zed{w w':World}{base n size g:Nat}{e t:TypeId}{v:Value}{xs:List Value}{cs:Array Value}(h:w.ownsRow base e size v n xs)(hg:w.grownBy w' v.ownBlock)(hb:Blk w g t cs)(hne:t≠e):Blk w' g t cs:=by
 refine(hg.block g hb.lt ?_).trans hb;obtain⟨_,⟨rfl,_⟩|⟨g',cap,cur,rfl,hgb,hh,_⟩⟩:=h
 ·intro e;cases e
 ·intro e2
  injection e2 with e2;have e3:g=g':=e2;subst e3;unfold Blk at hb;rw[hh]at hb;injection hb with hb;injection hb with _ h4;exact hne h4.symm
theorem zee(w:World)(base:Nat)(v:Value)(l:List Rn)(h:OwnR w base v l)(g:Nat)(r:Rn)(hg:Blk w g 220 #[r.1,r.2.1,r.2.2])(hl:l.length≤1048576)(hbase:base≤w.heap.size):∃v' w',(Builtin.append_ #[217,217] 217 #[v,.slice (some ⟨g,0,none⟩) 1 1]).run prog w= .ok v' w'∧OwnR w' base v' (l++ [r])∧w.grownBy w' v.ownBlock∧(v'.ownBlock=v.ownBlock∨v'.ownBlock=some w.heap.size):=by
 obtain⟨i,hi,hz,hs,hb⟩:=zd9
 have hcells:∀j u,([.int .i64 r.1,.int .i64 r.2.1,.int .i64 r.2.2] :List Value)[j]?=some u→w.cell? ((⟨g,0,none⟩:Addr).add j)=some u:=by
  intro j u hu;have hadd:(⟨g,0,none⟩:Addr).add j=⟨g,j,none⟩:=by unfold Addr.add;split<;>simp_all
  rw[hadd,hg.cell j];simpa using hu
 obtain⟨v',w',hrun,h2,h3,_,h5⟩:=run_append_own_at (P:=prog) w base 217 217 220 i (.agg #[(0:Int),(0:Int),(0:Int)]) 3 24 underlying217 hi hz hs hb rfl (by decide) v l.length (zd3 l) h ⟨g,0,none⟩ 1 1 [.int .i64 r.1,.int .i64 r.2.1,.int .i64 r.2.2] rfl hcells (fun u hu=>by
  simp at hu;rcases hu with rfl|rfl|rfl<;>rfl) (by unfold maxLen;omega) (by omega) hbase
 refine⟨v',w',hrun,?_,h3,h5⟩;unfold OwnR;rw[List.length_append,zd4];exact h2
theorem zef{w:World}{ops:Array Oper}{rest:List Oper}{o:Oper}{a:Act}{Q:Exit→Act→World→Prop}(hgd:o.guard=none)(s x:Operand)(ho:o.op= .call {callee:= .builtin .append,args:= #[s,x],argTypes:= #[217,217]})(hty:o.type=217)
  (base:Nat) (v:Value) (l:List Rn) (hs:a.eval s=v) (hown:OwnR w base v l) (g:Nat) (r:Rn) (hx:a.eval x= .slice (some ⟨g,0,none⟩) 1 1) (hg:Blk w g 220 #[r.1,r.2.1,r.2.2])
  (hl:l.length≤1048576) (hbase:base≤w.heap.size)
  (h: ∀v' w',OwnR w' base v' (l++ [r])→w.grownBy w' v.ownBlock→(v'.ownBlock=v.ownBlock∨v'.ownBlock=some w.heap.size)→wpList prog ops Q rest (a.put o.dst v') w'):wpList prog ops Q (o::rest) a w:=by
 refine wpList_plain hgd fun _ hK=> ?_
 obtain⟨v',w',hrun,h2,h3,h4⟩:=zee w base v l hown g r hg hl hbase
 unfold Oper.wp execOp
 simp only[ho,hty,resolve,invoke,builtin,Sem.run_bind,Sem.run_pure,Result.andThen_ok,List.map_toArray,List.map_cons,List.map_nil,hs,hx,hrun]
 exact hK _ _ (h v' w' h2 h3 h4)
def LayP(w:World)(base B:Nat)(l:List Rn)(w':World):Prop:=
 ∃v',Blk w' B 217 #[v'] ∧OwnR w' base v' l∧(∀w0,Fr [B] w0 w→w0.heap.size≤base→Fr [B] w0 w')∧w.heap.size≤w'.heap.size
theorem zeg{w:World}{base n size:Nat}{e:TypeId}{v:Value}{xs:List Value}(h:w.ownsRow base e size v n xs):∃A c,v= .slice A n c:=by
 obtain⟨h1,⟨rfl,rfl⟩|⟨g,cap,cur,rfl,_⟩⟩:=h
 ·exact⟨_,_,rfl⟩
 ·exact⟨_,_,rfl⟩
theorem zeh(w:World)(base B:Nat)(l:List Rn)(A:Option Addr)(c n:Nat)(hln:l.length=n)(hB:Blk w B 217 #[.slice A n c])(hO:OwnR w base (.slice A n c) l)(hbs:base≤w.heap.size)(e k x:Nat)(he:e≤1048576)(hx:zd6 l=x)(hx2:x≤1048576)(hn:n≤10)
  (hn0:n=0∨∃g,A=some ⟨g,0,none⟩∧∃y z:Nat,y+z=x∧w.cell? ⟨g,(n-1)*3,none⟩=some (.int .i64 y)∧w.cell? ⟨g,(n-1)*3+1,none⟩=some (.int .i64 z)∧n≤c∧1≤n):
  Calls prog 259 #[e,k,some B] w fun e' w'=>e'= .returned (.tuple #[])∧LayP w base B (zd7 l e k) w':=by
 have hc:=hB.cell 0;simp at hc;have HS:=hid (show zd7 l e k=if x<e then l++ [(x,e-x,k)]else l by unfold zd7;rw[hx]);rcases hn0 with rfl|⟨g,rfl,y,z,hyz,hcy,hcz,_,i1'⟩
 ·have hl0:l= [] :=List.eq_nil_of_length_eq_zero hln
  have hx0:x=0:=by rw[←hx,hl0];rfl
  subst hx0;clear hx;by_cases hlt:0<e
  ·have b1:=dT ((0:Int)<e)
   have hsub:((e-0:Nat):Int)=(e:Int):=by omega
   go_in;go_wp2_with (at_builtin;refine zef rfl _ _ rfl rfl base _ l rfl (World.ownsRow.alloc hO _) w.heap.size (0,e-0,k) rfl (by rw[hsub];exact Blk.new _ _ _) (by omega) (by simp;omega) ?_;intro v1 W1 hO1 hg1 hob1;have d0:=(zed (World.ownsRow.alloc hO _) hg1 (hB.alloc _) (by decide)).cell 0;have d1:=(zed (World.ownsRow.alloc hO _) hg1 (hB.alloc _) (by decide)).frozen 0;simp at d0;obtain⟨A1,c1,hv1⟩:=zeg hO1;generalize(l++ [(0,e-0,k)]).length=n1 at hv1;subst hv1);go_end0;refine⟨rfl,.slice A1 n1 c1,?_,?_,fun w0 hf hb=> ?_,?_⟩
   ·exact(zed (World.ownsRow.alloc hO _) hg1 (hB.alloc _) (by decide)).set 0 _
   ·rw[HS.out,if_pos hlt]
    exact zeb hO1 (zed (World.ownsRow.alloc hO _) hg1 (hB.alloc _) (by decide)) (by decide) _ _
   ·exact(zea (World.ownsRow.alloc hO _) hg1 ((hf).alloc _) hb).setCell (.inl (by simp)) _
   ·have:=hg1.size
    simp at this⊢;omega
  ·have b1:=dF ((0:Int)<e)
   go_in;go_wp2;go_end0;refine⟨rfl,_,hB,?_,fun w0 hf _=>hf,Nat.le_refl _⟩;rw[HS.out,if_neg hlt];exact hO
 ·have b0:=dT ((1:Int)≤n)
  have i3:=i6 ((n:Int)-1);have i4:((n:Int)-1).toNat=n-1:=by omega
  have i5:IntKind.i64.wrap ((y:Int)+z)=(x:Int):=(i6 _).trans (by omega);by_cases hlt:x<e
  ·have b1:=dT ((x:Int)<e)
   have hsub:((e-x:Nat):Int)=(e:Int)-x:=by omega
   have i6:=i6 ((e:Int)-x);have hl10:l.length≤1048576:=by omega
   clear hx hyz hln;go_in;go_wp2_with fail;go_quiet (fail);have hO2:(w.drewN nq).ownsRow base 220 3 (.slice (some ⟨g,0,none⟩) n c) l.length (zd3 l):=hO;have hB2:Blk (w.drewN nq) B 217 #[.slice (some ⟨g,0,none⟩) n c] :=hB;have hs2:(w.drewN nq).heap.size=w.heap.size:=rfl;have hfr2:∀w0,Fr [B] w0 w→Fr [B] w0 (w.drewN nq):=fun w0 h=>h.drewN nq;generalize w.drewN nq=w2 at*;have e0:=hB2.cell 0;simp at e0;have hbs2:base≤w2.heap.size:=by omega
   have HS2:=hid hs2;clear hs2;go_wp2_with (at_builtin;refine zef rfl _ _ rfl rfl base _ l rfl (World.ownsRow.alloc hO2 _) _ (x,e-x,k) rfl (by rw[hsub];exact Blk.new _ _ _) (by omega) (by simp;omega) ?_;intro v1 W1 hO1 hg1 hob1;have d0:=(zed (World.ownsRow.alloc hO2 _) hg1 (hB2.alloc _) (by decide)).cell 0;have d1:=(zed (World.ownsRow.alloc hO2 _) hg1 (hB2.alloc _) (by decide)).frozen 0;simp at d0;obtain⟨A1,c1,hv1⟩:=zeg hO1;generalize(l++ [(x,e-x,k)]).length=n1 at hv1;subst hv1);go_end0;refine⟨rfl,.slice A1 n1 c1,?_,?_,fun w0 hf hb=> ?_,?_⟩
   ·exact(zed (World.ownsRow.alloc hO2 _) hg1 (hB2.alloc _) (by decide)).set 0 _
   ·rw[HS.out,if_pos hlt]
    exact zeb hO1 (zed (World.ownsRow.alloc hO2 _) hg1 (hB2.alloc _) (by decide)) (by decide) _ _
   ·exact(zea (World.ownsRow.alloc hO2 _) hg1 ((hfr2 w0 hf).alloc _) hb).setCell (.inl (by simp)) _
   ·have:=hg1.size
    have h2:=HS2.out;simp at this⊢;omega
  ·have b1:=dF ((x:Int)<e)
   go_in;go_wp2_with fail;go_quiet (fail);go_wp2;go_end0;refine⟨rfl,_,hB,?_,fun w0 hf _=>hf.drewN _,Nat.le_refl _⟩;rw[HS.out,if_neg hlt];exact hO
theorem zei(w:World)(base B:Nat)(v:Value)(l:List Rn)(hB:Blk w B 217 #[v])(hO:OwnR w base v l)(hbs:base≤w.heap.size)(e k:Nat)(he:e≤1048576)(hx2:zd6 l≤1048576)(hn:l.length≤10):Calls prog 259 #[e,k,some B] w fun e' w'=>e'= .returned (.tuple #[])∧LayP w base B (zd7 l e k) w':=by
 obtain⟨A,c,rfl⟩:=zeg hO;refine zeh w base B l A c l.length rfl hB hO hbs e k (zd6 l) he rfl hx2 hn ?_;by_cases h0:l.length=0
 ·exact .inl h0
 ·obtain⟨g,cap,hv,_⟩:=World.ownsRow.form hO (by omega)
  have hcells:=World.ownsRow.cells hO (g:=g) (by rw[hv];rfl);injection hv with hA _ hcc;subst hA;refine .inr ⟨g,rfl,?_⟩;obtain⟨r,hr⟩:∃r,l[l.length-1]?=some r:=⟨_,List.getElem?_eq_getElem (by omega)⟩
  have hle:zd6 l=r.1+r.2.1:=by
   unfold zd6;rw[List.getLast?_eq_getElem?,hr]
  obtain⟨e1,e2,_⟩:=zd5 l _ r hr;have hadd:∀j,(⟨g,0,none⟩:Addr).add j=⟨g,j,none⟩:=fun j=>by unfold Addr.add;split<;>simp_all
  have f1:=hcells _ _ e1;have f2:=hcells _ _ e2;rw[hadd]at f1 f2;refine⟨r.1,r.2.1,hle.symm,by rw[Nat.mul_comm];exact f1,by rw[Nat.mul_comm];exact f2,?_,by omega⟩;obtain⟨_,⟨h2,_⟩|⟨g',cap',cur,h2,_,_,hnc,_⟩⟩:=hO
  ·cases h2
  ·injection h2 with _ _ h3
   omega
def l1:List Rn:=zd7 [] 8 1
def l2:List Rn:=zd7 l1 128 2
def l3(a:Nat):List Rn:=zd7 l2 (zdu a) 3
def l4(a s:Nat):List Rn:=zd7 (l3 a) (zdu a+4*s) 4
def l5(a s:Nat):List Rn:=zd7 (l4 a s) (zdv a s) 8
def zej(a s:Nat):List Rn:=zd7 (l5 a s) (zdw a s) 7
theorem zek(l:List Rn)(e k:Nat):(zd7 l e k).length≤l.length+1:=by unfold zd7;split<;>simp
theorem zel(l:List Rn)(e k:Nat)(h:zd6 l≤e):zd6 (zd7 l e k)=e:=by
 unfold zd7;by_cases c:zd6 l<e
 ·rw[if_pos c]
  generalize zd6 l=x at*;simp[zd6];omega
 ·rw[if_neg c];omega
theorem zem(a s:Nat)(h:Cfg a s):zd6 l1=8∧zd6 l2=128∧zd6 (l3 a)=zdu a∧zd6 (l4 a s)=zdu a+4*s∧zd6 (l5 a s)=zdv a s∧zd6 (zej a s)=zdw a s:=by
 obtain⟨a1,a2,s1,s2,s3⟩:=h;have e1:zd6 l1=8:=zel _ _ _ (by decide);have e2:zd6 l2=128:=zel _ _ _ (by rw[e1];omega);have e3:zd6 (l3 a)=zdu a:=zel _ _ _ (by rw[e2];unfold zdu;omega);have e4:zd6 (l4 a s)=zdu a+4*s:=zel _ _ _ (by rw[e3];omega);have e5:zd6 (l5 a s)=zdv a s:=zel _ _ _ (by rw[e4];unfold zdu zdv;omega);exact⟨e1,e2,e3,e4,e5,zel _ _ _ (by rw[e5];unfold zdw;omega)⟩
theorem zen(a s:Nat):l1.length≤1∧l2.length≤2∧(l3 a).length≤3∧(l4 a s).length≤4∧(l5 a s).length≤5∧(zej a s).length≤6:=by
 have e1:l1.length≤1:=zek _ _ _;have e2:l2.length≤2:=Nat.le_trans (zek _ _ _) (by omega);have e3:(l3 a).length≤3:=Nat.le_trans (zek _ _ _) (by omega);have e4:(l4 a s).length≤4:=Nat.le_trans (zek _ _ _) (by omega);have e5:(l5 a s).length≤5:=Nat.le_trans (zek _ _ _) (by omega);exact⟨e1,e2,e3,e4,e5,Nat.le_trans (zek _ _ _) (by omega)⟩
def zeo(w:World)(l:List Rn)(e:Ending)(w':World):Prop:= ∃v,e= .returned v∧OwnR w' w.heap.size v l∧Fr [] w w'
theorem zep(w:World)(hM:TabM w)(a s:Nat)(h:Cfg a s):Calls prog 156 #[cfgV a s] w (zeo w (zej a s)):=by
 have hr:=fun W h'=>zdt W h' a s h;have hsl:=fun W=>zdz W a s h;have hba:=fun W h'=>zd1 W h' a s h;have hsi:=fun W h'=>zd2 W h' a s h;obtain⟨n1,n2,n3,n4,n5,n6⟩:=zen a s;obtain⟨e1,e2,e3,e4,e5,e6⟩:=zem a s h;have hszl:=zdx a s h;have hbl:=zdy a s h;have hc:=h;have ha2:=h.a2;have hs3:=h.s3;have hslb:zdu a≤2000:=by unfold zdu;omega
 have y1:∀W base B v,Blk W B 217 #[v]→OwnR W base v []→base≤W.heap.size→Calls prog 259 #[(8:Int),(1:Int),some B] W fun e' w'=>e'= .returned (.tuple #[])∧LayP W base B l1 w':=fun W base B v hB hO hb=>zei W base B v [] hB hO hb 8 1 (by omega) (by decide) (by simp);have y2:∀W base B v,Blk W B 217 #[v]→OwnR W base v l1→base≤W.heap.size→Calls prog 259 #[(128:Int),(2:Int),some B] W fun e' w'=>e'= .returned (.tuple #[])∧LayP W base B l2 w':=fun W base B v hB hO hb=>zei W base B v l1 hB hO hb 128 2 (by omega) (by omega) (by omega);have y3:∀W base B v,Blk W B 217 #[v]→OwnR W base v l2→base≤W.heap.size→Calls prog 259 #[(zdu a),(3:Int),some B] W fun e' w'=>e'= .returned (.tuple #[])∧LayP W base B (l3 a) w':=fun W base B v hB hO hb=>zei W base B v l2 hB hO hb (zdu a) 3 (by omega) (by omega) (by omega)
 have y4:∀W base B v,Blk W B 217 #[v]→OwnR W base v (l3 a)→base≤W.heap.size→Calls prog 259 #[.int .i64 ((zdu a:Int)+(s:Int)*4),(4:Int),some B] W fun e' w'=>e'= .returned (.tuple #[])∧LayP W base B (l4 a s) w':=fun W base B v hB hO hb=>by
  have:=zei W base B v (l3 a) hB hO hb (zdu a+4*s) 4 (by omega) (by omega) (by omega);rw[show((zdu a+4*s:Nat):Int)=(zdu a:Int)+(s:Int)*4 by omega]at this;exact this
 have y5:∀W base B v,Blk W B 217 #[v]→OwnR W base v (l4 a s)→base≤W.heap.size→Calls prog 259 #[(zdv a s),(8:Int),some B] W fun e' w'=>e'= .returned (.tuple #[])∧LayP W base B (l5 a s) w':=fun W base B v hB hO hb=>zei W base B v (l4 a s) hB hO hb (zdv a s) 8 (by omega) (by omega) (by omega);have y6:∀W base B v,Blk W B 217 #[v]→OwnR W base v (l5 a s)→base≤W.heap.size→Calls prog 259 #[(zdw a s),(7:Int),some B] W fun e' w'=>e'= .returned (.tuple #[])∧LayP W base B (zej a s) w':=fun W base B v hB hO hb=>zei W base B v (l5 a s) hB hO hb (zdw a s) 7 (by omega) (by omega) (by omega);have u1:=i6 ((s:Int)*4);have u2:=i6 ((zdu a:Int)+(s:Int)*4);obtain⟨P,hP⟩:∃P,P=zeo w (zej a s):=⟨_,rfl⟩;rw[←hP];have HP:=hid hP;have U1:=hid u1;have U2:=hid u2;clear hP n1 n2 n3 n4 n5 n6 e1 e2 e3 e4 e5 e6 h hc u1 u2;generalize zdu a=sl at*;generalize zdv a s=ba at*;generalize zdw a s=si at*;generalize l3 a=L3 at*;generalize l4 a s=L4 at*;generalize l5 a s=L5 at*;generalize zej a s=L6 at*;generalize l1=L1 at*;generalize l2=L2 at*;unfold cfgV at*;go_in;go_wp2_with fail;go_call hr _ (hM.alloc _) as e w1 ⟨rfl,f1⟩;have hM1:=(hM.alloc (.cells #[a,s] 62)).fr f1 (by simp);have hC1:=(Blk.new w 62 #[.int .i64 a,.int .i64 s]).fr f1 (by simp);have hF1:=((Fr.refl [] w).alloc (.cells #[a,s] 62)).trans f1;have hCB:w.heap.size<w1.heap.size:=hC1.lt;have hMz:=hM1.size;obtain⟨W0,hW0⟩:∃W0,W0=w1.alloc (.cells #[.slice none 0 0] 217):=⟨_,rfl⟩;have hB0:Blk W0 w1.heap.size 217 #[.slice none 0 0] :=by rw[hW0];exact Blk.new _ _ _
 have hO0:OwnR W0 W0.heap.size (.slice none 0 0) [] :=World.ownsRow_nil _ _ _ _;have hC0:Blk W0 w.heap.size 62 #[a,s] :=by rw[hW0];exact hC1.alloc _
 have hM0:TabM W0:=by rw[hW0];exact hM1.alloc _
 have hF0:Fr [] w W0:=by rw[hW0];exact hF1.alloc _
 have hz0:W0.heap.size=w1.heap.size+1:=by rw[hW0,World.size_alloc]
 have HW0:=hid hW0;clear f1 hr hC1 hF1 hM hM1 hW0;go_wp2_with fail;rw[←HW0.out];go_call y1 _ _ _ _ hB0 hO0 (Nat.le_refl _) as e W1 ⟨rfl,v1,hB1,hO1,fr1,_⟩;have hFB1:Fr [w1.heap.size] W0 W1:=fr1 W0 (Fr.refl _ _) (Nat.le_refl _);clear hB0 hO0 fr1 y1;go_wp2_with fail;go_call y2 _ _ _ _ hB1 hO1 hFB1.size as e W2 ⟨rfl,v2,hB2,hO2,fr2,_⟩;have hFB2:Fr [w1.heap.size] W0 W2:=fr2 W0 hFB1 (Nat.le_refl _);have hC2:=hC0.fr hFB2 (by simp;omega);have c0:=hC2.cell 0;have c1:=hC2.cell 1;simp at c0 c1;clear hB1 hO1 fr2 y2 hFB1;go_wp2_with fail;go_call hsl _ as e W3 ⟨rfl,f3⟩;have hB3:=hB2.fr f3 (by simp);have hO3:OwnR W3 W0.heap.size v2 L2:=zec hO2 f3;have hFB3:=hFB2.trans (f3.mono (S':= [w1.heap.size]) (fun _ hm=>by simp at hm));clear hB2 hO2 hFB2 hC2 c0 c1 f3;go_wp2_with fail;go_call y3 _ _ _ _ hB3 hO3 hFB3.size as e W4 ⟨rfl,v4,hB4,hO4,fr4,_⟩;have hFB4:Fr [w1.heap.size] W0 W4:=fr4 W0 hFB3 (Nat.le_refl _);have hC4:=hC0.fr hFB4 (by simp;omega);have c0:=hC4.cell 0;have c1:=hC4.cell 1;simp at c0 c1;clear hB3 hO3 fr4 y3 hFB3;go_wp2_with fail;have u1:=U1.out;have u2:=U2.out;have hB5:=hB4.drew;have hO5:OwnR W4.drew W0.heap.size v4 L3:=hO4;have hFB5:=hFB4.drew;clear hB4 hO4 hFB4 hC4
 go_region_held3 (fun w'=>w'.cell? ⟨w.heap.size,0,none⟩=some (.int .i64 a)∧w'.cell? ⟨w.heap.size,1,none⟩=some (.int .i64 s)) (exact⟨c0,c1⟩)
  (first
   |(go_at_call 164;(with_reducible refine(hsl _).mono ?_);rintro e W6 ⟨rfl,f6⟩;have hB6:=hB5.fr f6 (by simp);have hO6:OwnR W6 W0.heap.size v4 L3:=zec hO5 f6;have hFB6:=hFB5.trans (f6.mono (S':= [w1.heap.size]) (fun _ hm=>by simp at hm));have hC6:=hC0.fr hFB6 (by simp;omega);have c0:=hC6.cell 0;have c1:=hC6.cell 1;simp at c0 c1)
   |(go_at_call 259;(with_reducible refine(y4 _ _ _ _ hB6 hO6 hFB6.size).mono ?_);rintro e W7 ⟨rfl,v7,hB7,hO7,fr7,_⟩;have hFB7:Fr [w1.heap.size] W0 W7:=fr7 W0 hFB6 (Nat.le_refl _);have hC7:=hC0.fr hFB7 (by simp;omega);have c0:=hC7.cell 0;have c1:=hC7.cell 1;simp at c0 c1))
 clear hB5 hO5 hFB5 hB6 hO6 hFB6 hC6 u1 u2 f6 fr7;go_wp2_with fail;go_call hba _ (hM0.fr hFB7 (by simp;omega)) as e W8 ⟨rfl,f8⟩;have hB8:=hB7.fr f8 (by simp);have hO8:OwnR W8 W0.heap.size v7 L4:=zec hO7 f8;have hFB8:=hFB7.trans (f8.mono (S':= [w1.heap.size]) (fun _ hm=>by simp at hm));clear hB7 hO7 hFB7 hC7 c0 c1 f8;go_wp2_with fail;go_call y5 _ _ _ _ hB8 hO8 hFB8.size as e W9 ⟨rfl,v9,hB9,hO9,fr9,_⟩;have hFB9:Fr [w1.heap.size] W0 W9:=fr9 W0 hFB8 (Nat.le_refl _);have hC9:=hC0.fr hFB9 (by simp;omega);have c0:=hC9.cell 0;have c1:=hC9.cell 1;simp at c0 c1;clear hB8 hO8 fr9 y5 hFB8;go_wp2_with fail;go_call hsi _ (hM0.fr hFB9 (by simp;omega)) as e W10 ⟨rfl,f10⟩;have hB10:=hB9.fr f10 (by simp);have hO10:OwnR W10 W0.heap.size v9 L5:=zec hO9 f10;have hFB10:=hFB9.trans (f10.mono (S':= [w1.heap.size]) (fun _ hm=>by simp at hm));clear hB9 hO9 hFB9 hC9 c0 c1 f10;go_wp2_with fail;go_call y6 _ _ _ _ hB10 hO10 hFB10.size as e W11 ⟨rfl,v11,hB11,hO11,fr11,_⟩;have hFB11:Fr [w1.heap.size] W0 W11:=fr11 W0 hFB10 (Nat.le_refl _);have d0:=hB11.cell 0;simp at d0;obtain⟨A11,k11,hv11⟩:=zeg hO11;generalize L6.length=n11 at hv11;subst hv11;go_wp2;rw[HP.out];refine⟨_,rfl,⟨hO11.1,?_⟩,hF0.step hFB11 (by simp;omega)⟩;rcases hO11.2 with h2|⟨g',cap',cur',h1,hb',h3⟩
 ·exact .inl h2
 ·exact .inr ⟨g',cap',cur',h1,by omega,h3⟩
end Go.Proofs.YtghllbkjghnmhaaGreatDoor
