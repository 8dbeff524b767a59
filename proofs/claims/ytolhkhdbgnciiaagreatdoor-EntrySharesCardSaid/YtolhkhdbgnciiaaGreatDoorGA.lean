/- Several texts in one. -/
import Derived.Lib.Hide
import Derived.Deep.OwnRows
import Derived.Lib.SliceRun
import Derived.BigQuiet
import Derived.Handy
import Derived.Deep.AppendLies
import Derived.RangeFuncNested
import Derived.Deep.Fields
import Derived.Test.YtolhkhdbgnciiaaGreatDoorRows
import Derived.ShutString
namespace Go.Proofs.YtolhkhdbgnciiaaGreatDoor
open _root_.Go.Proofs.Tryz
open Go.Lib (hid)
open Go.IntWalk (i64_in)
set_option linter.unusedVariables false
set_option linter.unusedSimpArgs false
open Go.RowKit
set_option maxRecDepth 100000
set_option maxHeartbeats 1000000
def Blk(w:World)(g:Nat)(t:TypeId)(cs:Array Value):Prop:=w.heap[g]?=some (.cells cs t (0,0))
structure Fr(S:List Nat)(w w':World):Prop where
 os:w'.os=w.os
 tape:w'.tape=w.tape
 output:w'.output=w.output
 size:w.heap.size≤w'.heap.size
 block: ∀k,k<w.heap.size→k∉S→w'.heap[k]?=w.heap[k]?
section
variable {w w' w'' : World} {g : Nat} {t : TypeId} {cs : Array Value} {S S' : List Nat}
theorem Blk.lt(h:Blk w g t cs):g<w.heap.size:=by
 rcases Nat.lt_or_ge g w.heap.size with hlt|hge
 ·exact hlt
 ·unfold Blk at h;rw[Array.getElem?_eq_none hge]at h;cases h
theorem Blk.cell(h:Blk w g t cs)(i:Nat):w.cell? ⟨g,i,none⟩=cs[i]?:=cell_of_row w g i cs t (0,0) h
theorem Blk.frozen(h:Blk w g t cs)(i:Nat):w.frozen? ⟨g,i,none⟩=false:=by
 unfold Blk at h;simp[World.frozen?,h]
theorem Blk.new(w:World)(t:TypeId)(cs:Array Value):Blk (w.alloc (.cells cs t)) w.heap.size t cs:=heap_alloc_new w _
theorem Blk.drew(h:Blk w g t cs):Blk w.drew g t cs:=h
theorem Blk.alloc(h:Blk w g t cs)(o:Obj):Blk (w.alloc o) g t cs:=(Below.heap_alloc w o g h.lt).trans h
theorem Blk.set(h:Blk w g t cs)(i:Nat)(u:Value):Blk (w.setCell ⟨g,i,none⟩ u) g t (cs.setIfInBounds i u):=by
 unfold Blk at h⊢;simp[World.setCell,Array.getElem?_modify,h]
theorem Blk.far(h:Blk w g t cs){p:Addr}(hp:g≠p.block)(u:Value):Blk (w.setCell p u) g t cs:=(Below.heap_setCell w p u g hp).trans h
theorem Blk.below{B:Nat}(h:Blk w g t cs)(hb:Below B w w')(hg:g<B):Blk w' g t cs:=(hb.block g hg).trans h
theorem Blk.fr(h:Blk w g t cs)(hf:Fr S w w')(hg:g∉S):Blk w' g t cs:=(hf.block g h.lt hg).trans h
theorem Blk.ne_{g':Nat}{t':TypeId}{cs':Array Value}(h:Blk w g t cs)(h':Blk w g' t' cs')(hne:t≠t'):g≠g':=by
 rintro rfl;unfold Blk at h h';rw[h]at h';injection h' with h';injection h' with _ ht;exact hne ht
theorem Fr.refl(S:List Nat)(w:World):Fr S w w:=⟨rfl,rfl,rfl,Nat.le_refl _,fun _ _ _=>rfl⟩
theorem Fr.trans(h:Fr S w w')(k:Fr S w' w''):Fr S w w'':=
 ⟨k.os.trans h.os,k.tape.trans h.tape,k.output.trans h.output,Nat.le_trans h.size k.size,fun i hi hn=>(k.block i (Nat.lt_of_lt_of_le hi h.size) hn).trans (h.block i hi hn)⟩
theorem Fr.mono(h:Fr S w w')(hs:∀k∈S,k∈S'∨w.heap.size≤k):Fr S' w w':=
 ⟨h.os,h.tape,h.output,h.size,fun i hi hn=>h.block i hi (fun hm=>(hs i hm).elim hn (fun h=>by omega))⟩
theorem Fr.drew(h:Fr S w w'):Fr S w w'.drew:=⟨h.os,h.tape,h.output,h.size,h.block⟩
theorem Fr.drewN(h:Fr S w w')(n:Nat):Fr S w (w'.drewN n):=⟨h.os,h.tape,h.output,h.size,h.block⟩
theorem Fr.alloc(h:Fr S w w')(o:Obj):Fr S w (w'.alloc o):=
 ⟨h.os,h.tape,h.output,Nat.le_trans h.size (by simp),fun i hi hn=>(Below.heap_alloc w' o i (Nat.lt_of_lt_of_le hi h.size)).trans (h.block i hi hn)⟩
theorem Fr.setCell(h:Fr S w w'){p:Addr}(hp:p.block∈S∨w.heap.size≤p.block)(u:Value):Fr S w (w'.setCell p u):=
 ⟨h.os,h.tape,h.output,by simpa[World.setCell]using h.size,fun i hi hn=>(Below.heap_setCell w' p u i (by
  rintro rfl;rcases hp with hp|hp
  ·exact hn hp
  ·omega)).trans (h.block i hi hn)⟩
theorem Fr.below{B:Nat}(h:Fr S w w')(hB:B≤w.heap.size)(hs:∀k∈S,B≤k):Below B w w':=
 ⟨h.os,h.tape,h.output,h.size,fun k hk=>h.block k (by omega) (fun hm=>by have:=hs k hm;omega)⟩
theorem Fr.of_below(h:Below w.heap.size w w'):Fr S w w':=⟨h.os,h.tape,h.output,h.size,fun k hk _=>h.block k hk⟩
theorem Fr.step(h:Fr S w w')(k:Fr S' w' w'')(hs:∀x∈S',x∈S∨w.heap.size≤x):Fr S w w'':=
 ⟨k.os.trans h.os,k.tape.trans h.tape,k.output.trans h.output,Nat.le_trans h.size k.size,fun i hi hn=>(k.block i (Nat.lt_of_lt_of_le hi h.size) (fun hm=>(hs i hm).elim hn (fun h=>by omega))).trans (h.block i hi hn)⟩
theorem Fr.cell(h:Fr S w w'){p:Addr}(hp:p.block<w.heap.size)(hn:p.block∉S):w'.cell? p=w.cell? p:=World.cell?_of_block (w:=w) (h.block p.block hp hn)
end
def bytes(l:List Nat):Array Value:=(l.map fun k:Nat=>Value.int .u8 (k:Int)).toArray
theorem zgi(l:List Nat):(bytes l).size=l.length:=by simp[bytes]
theorem bytes_get(l:List Nat)(i:Nat)(h:i<l.length):(bytes l)[i]?=some (.int .u8 ((l[i]?.getD 0:Nat):Int)):=by
 simp[bytes,h]
theorem znu(l:List Nat)(i k:Nat):(bytes l).setIfInBounds i (.int .u8 (k:Int))=bytes (l.set i k):=by
 simp[bytes,List.map_set]
theorem ze5(n k:Nat):bytes (List.replicate n k)=Array.replicate n (.int .u8 (k:Int)):=by
 simp[bytes]
theorem zex(n:Nat):madeCells #[.int .u8 0] n=bytes (List.replicate n 0):=by
 rw[ze5];apply Array.ext
 ·simp[madeCells]
 ·intro i h1 h2
  simp[madeCells,Nat.mod_one]
theorem zb8{P:Program}(t e:TypeId)(ht:P.underlying t=some (.slice e))(hinfo:(P.info? e).map (fun i=>(i.zero,i.size,i.bytes))=some (some (.int .u8 0),1,1))
  (kl kc:IntKind) (n:Nat) (h:n≤1099511627776) (w:World):
  (Instr.makeSlice t (.int kl (n:Int)) (.int kc (n:Int))).run P w= .ok (.slice (some ⟨w.heap.size,0,none⟩) n n) (w.alloc (.cells (bytes (List.replicate n 0)) e)):=by
 rw[←zex];exact run_make_row' t e (.int .u8 0) 1 ht hinfo rfl kl kc n (by omega) (by omega) w
theorem za9(b:Nat)(k:Nat)(hk:k≠b):∀(vs:List Value) (o:Nat) (w:World),(w.setCells b o vs).heap[k]?=w.heap[k]?
 | [],_,_=>rfl
 |v::vs,o,w=>by
  show((w.setCell ⟨b,o,none⟩ v).setCells b (o+1) vs).heap[k]?=_;rw[za9 b k hk vs];exact Below.heap_setCell _ _ _ _ hk
def laid(cs:Array Value)(o:Nat):List Value→Array Value
 | [] =>cs
 |v::vs=>laid (cs.setIfInBounds o v) (o+1) vs
theorem zig:∀(vs:List Value) (cs:Array Value) (o:Nat),(laid cs o vs).size=cs.size
 | [],_,_=>rfl
 |v::vs,cs,o=>by simp[laid,zig vs]
theorem zha:∀(vs:List Value) (cs:Array Value) (o:Nat) (_:o+vs.length≤cs.size) (i:Nat),(laid cs o vs)[i]?=if o≤i∧i<o+vs.length then vs[i-o]? else cs[i]?
 | [],cs,o,_,i=>by
  have:¬(o≤i∧i<o+([] :List Value).length):=by rw[List.length_nil];omega
  rw[if_neg this];rfl
 |v::vs,cs,o,h,i=>by
  simp only[laid];rw[List.length_cons]at h⊢;rw[zha vs _ _ (by rw[Array.size_setIfInBounds];omega)];by_cases h1:o=i
  ·subst h1
   rw[if_neg (by omega),if_pos (by omega),Nat.sub_self,Array.getElem?_setIfInBounds,if_pos rfl,if_pos (by omega)];rfl
  ·by_cases h2:o+1≤i∧i<o+1+vs.length
   ·rw[if_pos h2,if_pos (by omega),show i-o=(i-(o+1))+1 by omega]
    rfl
   ·rw[if_neg h2,if_neg (by omega),Array.getElem?_setIfInBounds_ne h1]
theorem zdi(vs:List Value)(cs:Array Value)(h:vs.length=cs.size):laid cs 0 vs=vs.toArray:=by
 apply Array.ext_getElem?;intro i;rw[zha vs cs 0 (by omega)];by_cases hi:i<vs.length
 ·rw[if_pos (by omega)];simp
 ·rw[if_neg (by omega),Array.getElem?_eq_none (by omega),Array.getElem?_eq_none (by simp;omega)]
theorem Blk.setCells{g:Nat}{t:TypeId}:∀(vs:List Value) (o:Nat) {w:World} {cs:Array Value},Blk w g t cs→Blk (w.setCells g o vs) g t (laid cs o vs)
 | [],_,_,_,h=>h
 |v::vs,o,_,_,h=>Blk.setCells vs (o+1) (h.set o v)
theorem Blk.setCells_far{g b:Nat}{t:TypeId}{w:World}{cs:Array Value}(h:Blk w g t cs)(hb:g≠b)(vs:List Value)(o:Nat):Blk (w.setCells b o vs) g t cs:=
 (za9 b g hb vs o w).trans h
theorem zcl(b:Nat):∀(vs:List Value) (o:Nat) (w:World),(w.setCells b o vs).os=w.os∧(w.setCells b o vs).tape=w.tape∧(w.setCells b o vs).output=w.output∧(w.setCells b o vs).heap.size=w.heap.size
 | [],_,_=>⟨rfl,rfl,rfl,rfl⟩
 |v::vs,o,w=>by
  obtain⟨h1,h2,h3,h4⟩:=zcl b vs (o+1) (w.setCell ⟨b,o,none⟩ v);exact⟨h1,h2,h3,h4.trans (by simp[World.setCell])⟩
theorem Fr.setCells{S:List Nat}{w w':World}(h:Fr S w w'){b:Nat}(hb:b∈S∨w.heap.size≤b)(vs:List Value)(o:Nat):Fr S w (w'.setCells b o vs):=by
 obtain⟨h1,h2,h3,h4⟩:=zcl b vs o w';refine⟨h1.trans h.os,h2.trans h.tape,h3.trans h.output,by rw[h4];exact h.size,fun i hi hn=> ?_⟩;rw[za9 b i (by rintro rfl;rcases hb with hb|hb<;>first|exact hn hb|omega)];exact h.block i hi hn
theorem zcw{S:List Nat}{w:World}:Fr S w w.drew:=(Fr.refl _ _).drew
theorem zl3 {P : Program} {f : FuncId} {args : Array Value} {w : World} {n : Nat} {v : Value}
    (h : Calls P f args (w.drewN n) fun e w' => e = .returned v ∧ w.drewN n = w') : Calls P f args (w.drewN n) fun e w'' => e = .returned v ∧ ∃ m, w'' = w.drewN m :=
  h.mono fun _ _ ⟨he, hm⟩ => ⟨he, n, hm.symm⟩
theorem zvi{p q:Prop}[Decidable p][Decidable q](h:p↔q):Ending.returned (.bool (decide p))= .returned (.bool (decide q)):=by simp[h]
theorem zfg{q:Prop}[Decidable q](h:¬q):Ending.returned (.bool false)= .returned (.bool (decide q)):=by simp[h]
theorem zjs{k:IntKind}{a b:Int}(h:a=b):Ending.returned (.int k a)= .returned (.int k b):=by rw[h]
def zd1(l:List Nat)(a v:Nat):Nat→List Nat
 |0=>l
 |i+1=>(zd1 l a v i).set (a+i) (v/256^i %256)
def ldTo(l:List Nat)(a:Nat):Nat→Nat
 |0=>0
 |i+1=>ldTo l a i+l[a+i]?.getD 0*256^i
theorem zbo(l:List Nat)(a v:Nat):∀n,(zd1 l a v n).length=l.length
 |0=>rfl
 |n+1=>by rw[zd1,List.length_set,zbo l a v n]
theorem zil(l:List Nat)(a v:Nat):∀n,a+n≤l.length→∀i,(zd1 l a v n)[i]?.getD 0=if a≤i∧i<a+n then v/256^(i-a) %256 else l[i]?.getD 0
 |0,_,i=>by rw[if_neg (by omega)];rfl
 |n+1,h,i=>by
  rw[zd1,List.getElem?_set];by_cases e:a+n=i
  ·subst e
   rw[if_pos rfl,if_pos (by rw[zbo];omega),if_pos (by omega),show a+n-a=n by omega];rfl
  ·rw[if_neg e,zil l a v n (by omega) i]
   by_cases c:a≤i∧i<a+n
   ·rw[if_pos c,if_pos (by omega)]
   ·rw[if_neg c,if_neg (by omega)]
theorem zo9(l:List Nat)(hl:∀b∈l,b<256)(a:Nat):∀n,ldTo l a n<256^n
 |0=>by simp[ldTo]
 |n+1=>by
  have h1:=zo9 l hl a n
  have h2:l[a+n]?.getD 0≤255:=by
   rcases h:l[a+n]? with _|b
   ·simp
   ·have:=hl b (List.mem_of_getElem? h)
    simp;omega
  rw[ldTo,Nat.pow_succ];have h3:l[a+n]?.getD 0*256^n≤255*256^n:=Nat.mul_le_mul_right _ h2;omega
theorem zh0(v n:Nat):v %256^(n+1)=v %256^n+v/256^n %256*256^n:=by
 rw[Nat.pow_succ,Nat.mod_mul,Nat.mul_comm (256^n)]
theorem zpe(l:List Nat)(a v:Nat):∀n,(∀j,j<n→l[a+j]?.getD 0=v/256^j %256)→ldTo l a n=v %256^n
 |0,_=>by simp[ldTo,Nat.mod_one]
 |n+1,h=>by rw[ldTo,zpe l a v n (fun j hj=>h j (by omega)),h n (by omega),zh0]
def w64(z:Int):Nat:=(z %18446744073709551616).toNat
theorem zg5(z:Int):IntKind.u64.wrap z=(w64 z:Int):=by
 have:IntKind.u64.wrap z=z %18446744073709551616:=rfl;rw[this,w64];omega
theorem za3(n:Nat)(h:n<18446744073709551616):IntKind.u64.wrap (n:Int)=(n:Int):=by
 have:IntKind.u64.wrap (n:Int)=(n:Int) %18446744073709551616:=rfl;rw[this];omega
theorem zwi(n:Nat):IntKind.u32.wrap (n:Int)=((n %4294967296:Nat):Int):=by
 have:IntKind.u32.wrap (n:Int)=(n:Int) %4294967296:=rfl;rw[this];omega
theorem zu4(n:Nat):IntKind.u16.wrap (n:Int)=((n %65536:Nat):Int):=by
 have:IntKind.u16.wrap (n:Int)=(n:Int) %65536:=rfl;rw[this];omega
structure Byt(w:World)(a:Option Addr)(l:List Nat):Prop where
 at_: ∀i,i<l.length→ ∃g o,a=some ⟨g,o,none⟩∧w.cell? ⟨g,o+i,none⟩=some (.int .u8 ((l[i]?.getD 0:Nat):Int))∧g<w.heap.size
 byte: ∀b∈l,b<256
 len:l.length≤1099511627776
theorem Byt.fr{w w':World}{a:Option Addr}{l:List Nat}{S:List Nat}(h:Byt w a l)(hf:Fr S w w')(hS:∀g o,a=some ⟨g,o,none⟩→g∉S):Byt w' a l:=
 ⟨fun i hi=>by
  obtain⟨g,o,e,hc,hg⟩:=h.at_ i hi;exact⟨g,o,e,(hf.cell (p:=⟨g,o+i,none⟩) hg (hS g o e)).trans hc,Nat.lt_of_lt_of_le hg hf.size⟩,h.byte,h.len⟩
theorem zis:(prog.info? 5).map (fun i=>(i.zero,i.size,i.bytes))=some (some (.int .u8 0),1,1):=by kernel_rfl
def zag(l:List Nat):ByteArray:=⟨(l.map UInt8.ofNat).toArray⟩
theorem zgg(l:List Nat):(zag l).toList=l.map UInt8.ofNat:=by
 rw[ByteArray.toList_eq];simp[zag]
theorem zkp(l m:List Nat)(hl:∀b∈l,b<256)(hm:∀b∈m,b<256):((zag l).toList==(zag m).toList)=(l==m):=by
 rw[zgg,zgg,Bool.eq_iff_iff,beq_iff_eq,beq_iff_eq];constructor
 ·intro h
  have:=congrArg (List.map UInt8.toNat) h;rw[List.map_map,List.map_map]at this;rw[List.map_congr_left (g:=id) (fun b hb=>by simp[Nat.mod_eq_of_lt (hl b hb)]),List.map_congr_left (l:=m) (g:=id) (fun b hb=>by simp[Nat.mod_eq_of_lt (hm b hb)])]at this;simpa using this
 ·rintro rfl;rfl
theorem zc6(w:World)(a:Option Addr)(c:Nat)(l:List Nat)(h:Byt w a l):(convert 44 9 (.slice a l.length c)).run prog w= .ok (.string (zag l)) w:=by
 have e:zag l=strOfNums (l.map fun k:Nat=>(k:Int)):=by
  unfold zag strOfNums;rw[List.map_map];rfl
 rcases l with _|⟨x,l⟩
 ·rcases a with _|⟨g,o,pp⟩
  ·exact run_convert_bytes_nil w _ _ underlying44 underlying5 _ _ _ underlying9
  ·show(convert 44 9 (.slice (some ⟨g,o,pp⟩) 0 c)).run prog w=_
   rw[run_convert_bytes_string w _ _ 5 _ 0 c underlying44 underlying5 underlying9];simp[Conv.bytesToString,loadCells];rfl
 ·obtain⟨g,o,rfl,hc,hg⟩:=h.at_ 0 (by simp)
  rw[e];refine run_convert_bytes_arg w _ _ underlying44 underlying5 g o _ c _ (by simp) (fun i hi=> ?_) _ underlying9;obtain⟨g',o',e',hc',_⟩:=h.at_ i hi;injection e' with e';injection e' with e1 e2;subst e1;subst e2;rw[hc']
  have:((x::l).map fun k:Nat=>(k:Int)).getD i 0=(((x::l)[i]?.getD 0:Nat):Int):=by
   rw[List.getD_eq_getElem?_getD,List.getElem?_map];rcases(x::l)[i]? with _|y<;>rfl
  rw[this]
def RowB(w:World)(g cap:Nat)(l:List Nat):Prop:=
 ∃cur:Array Value,Blk w g 5 cur∧cur.size=cap∧l.length≤cap∧ ∀i,i<l.length→cur[i]?=some (.int .u8 ((l[i]?.getD 0:Nat):Int))
section
variable {w w' : World} {g cap : Nat} {l : List Nat}
theorem RowB.of(h:Blk w g 5 (bytes l)):RowB w g l.length l:=⟨_,h,zgi l,Nat.le_refl _,fun i hi=>bytes_get l i hi⟩
theorem RowB.cell(h:RowB w g cap l)(i:Nat)(hi:i<l.length):w.cell? ⟨g,i,none⟩=some (.int .u8 ((l[i]?.getD 0:Nat):Int)):=by
 obtain⟨cur,hb,_,_,hc⟩:=h;rw[hb.cell,hc i hi]
theorem RowB.frozen(h:RowB w g cap l)(i:Nat):w.frozen? ⟨g,i,none⟩=false:=by
 obtain⟨cur,hb,_⟩:=h;exact hb.frozen i
theorem RowB.le(h:RowB w g cap l):l.length≤cap:=by
 obtain⟨cur,_,_,hc,_⟩:=h;exact hc
theorem RowB.lt(h:RowB w g cap l):g<w.heap.size:=by
 obtain⟨cur,hb,_⟩:=h;exact hb.lt
theorem RowB.fr{S:List Nat}(h:RowB w g cap l)(hf:Fr S w w')(hg:g∉S):RowB w' g cap l:=by
 obtain⟨cur,hb,hc⟩:=h;exact⟨cur,hb.fr hf hg,hc⟩
theorem RowB.alloc(h:RowB w g cap l)(o:Obj):RowB (w.alloc o) g cap l:=by
 obtain⟨cur,hb,hc⟩:=h;exact⟨cur,hb.alloc o,hc⟩
theorem RowB.set(h:RowB w g cap l)(i k:Nat)(hi:i<l.length):RowB (w.setCell ⟨g,i,none⟩ (.int .u8 (k:Int))) g cap (l.set i k):=by
 obtain⟨cur,hb,hs,hl,hc⟩:=h;refine⟨_,hb.set i _,by rw[Array.size_setIfInBounds,hs],by rw[List.length_set];exact hl,fun j hj=> ?_⟩;rw[List.length_set]at hj;rw[Array.getElem?_setIfInBounds,List.getElem?_set];by_cases e:i=j
 ·subst e
  rw[if_pos rfl,if_pos rfl,if_pos (by omega),if_pos hi];rfl
 ·rw[if_neg e,if_neg e];exact hc j hj
theorem RowB.byt(h:RowB w g cap l)(hb:∀b∈l,b<256)(hl:l.length≤1099511627776):Byt w (some ⟨g,0,none⟩) l:=
 ⟨fun i hi=>⟨g,0,rfl,by rw[Nat.zero_add];exact h.cell i hi,h.lt⟩,hb,hl⟩
end
structure IsA(w:World)(p g cap:Nat)(l:List Nat):Prop where
 st:Blk w p 187 #[.slice (some ⟨g,0,none⟩) l.length cap]
 row:RowB w g cap l
 byte: ∀b∈l,b<256
 len:l.length≤1048576
theorem IsA.ne{w:World}{p g cap:Nat}{l:List Nat}(h:IsA w p g cap l):p≠g:=by
 obtain⟨cur,hb,_⟩:=h.row;exact h.st.ne_ hb (by decide)
theorem IsA.fr{w w':World}{p g cap:Nat}{l:List Nat}{S:List Nat}(h:IsA w p g cap l)(hf:Fr S w w')(hp:p∉S)(hg:g∉S):IsA w' p g cap l:=
 ⟨h.st.fr hf hp,h.row.fr hf hg,h.byte,h.len⟩
theorem IsA.set{w:World}{p g cap:Nat}{l:List Nat}(h:IsA w p g cap l)(i k:Nat)(hi:i<l.length)(hk:k<256):IsA (w.setCell ⟨g,i,none⟩ (.int .u8 (k:Int))) p g cap (l.set i k):=by
 refine⟨?_,h.row.set i k hi,fun x hx=>(List.mem_or_eq_of_mem_set hx).elim (h.byte x) (fun e=>e▸hk),by rw[List.length_set];exact h.len⟩;rw[List.length_set];exact h.st.far (p:=⟨g,i,none⟩) h.ne _
theorem IsA.byt{w:World}{p g cap:Nat}{l:List Nat}(h:IsA w p g cap l):Byt w (some ⟨g,0,none⟩) l:=h.row.byt h.byte (by have:=h.len;omega)
def widB(w:Int):Bool:=w==1||w==2||w==4||w==8
theorem zhs(w:World)(n:Int):Calls prog 241 #[.int .i64 n] w fun e w'=>e= .returned (.bool (widB n))∧w'=w:=by
 by_cases h0:0<n
 ·by_cases h1:n≤8
  ·obtain⟨k,rfl⟩:∃k:Nat,n=k:=⟨n.toNat,by omega⟩
   rcases k with _|_|_|_|_|_|_|_|_|k<;>try omega
   all_goals
    go_enter func241,ntmps241;go_wp2;go_ret;exact⟨rfl,rfl⟩
  ·have h2:decide (0<n)=true:=by simpa using h0
   have h3:decide (n≤8)=false:=by simpa using h1
   have h4:widB n=false:=by simp[widB];omega
   rw[h4];clear h4;go_enter func241,ntmps241;go_wp2;go_ret;exact⟨rfl,rfl⟩
 ·have h2:decide (0<n)=false:=by simpa using h0
  have h4:widB n=false:=by simp[widB];omega
  rw[h4];clear h4;go_enter func241,ntmps241;go_wp2;go_ret;exact⟨rfl,rfl⟩
theorem zjq(w:World)(k:Nat)(n:Int)(hk:0<k)(h0:0≤n):Calls prog 284 #[.int .i64 k,.int .i64 n] w fun e w'=>e= .returned (.bool (n %k==0))∧w'=w:=by
 have h1:((k:Int)==0)=false:=by simp;omega
 have h2:(0:Int)<k:=by omega
 go_enter func284,ntmps284;go_wp2;go_ret;exact⟨rfl,rfl⟩
def zax(n x w:Int):Nat:=if widB w=false then 2 else if x<0∨n<x∨n-x<w then 6 else if x %w≠0 then 9 else 0
theorem zc5{n:Int}(h:widB n=true):∃k:Nat,n=k∧(k=1∨k=2∨k=4∨k=8):=by
 simp[widB]at h;exact⟨n.toNat,by omega,by omega⟩
theorem zpp(w:World)(n:Nat)(x wd:Int)(hn:n≤1099511627776):Calls prog 240 #[.int .i64 n,.int .i64 x,.int .i64 wd] w fun e w'=>e= .returned (.int .i64 (zax n x wd))∧w'=w:=by
 have hw:=fun w=>zhs w wd;unfold zax;rcases hB:widB wd with _|_
 ·rw[if_pos rfl]
  rw[hB]at hw;clear hB;go_enter func240,ntmps240;go_wp2_with (go_at_call 241;refine(hw _).mono ?_;rintro e w' ⟨rfl,rfl⟩);go_ret;exact⟨rfl,rfl⟩
 ·obtain⟨k,rfl,hk⟩:=zc5 hB
  have hk0:0<k:=by omega
  rw[hB]at hw;rw[if_neg (by simp)];clear hB;by_cases h0:x<0
  ·have b0:decide (x<0)=true:=by simpa using h0
   rw[if_pos (by omega)];go_enter func240,ntmps240;go_wp2_with (go_at_call 241;refine(hw _).mono ?_;rintro e w' ⟨rfl,rfl⟩);go_ret;exact⟨rfl,rfl⟩
  have b0:decide (x<0)=false:=by simpa using h0
  by_cases h1:(n:Int)<x
  ·have b1:decide ((n:Int)<x)=true:=by simpa using h1
   rw[if_pos (by omega)];go_enter func240,ntmps240;go_wp2_with (go_at_call 241;refine(hw _).mono ?_;rintro e w' ⟨rfl,rfl⟩);go_ret;exact⟨rfl,rfl⟩
  have b1:decide ((n:Int)<x)=false:=by simpa using h1
  have hs:=i64_in (n-x) (by omega);by_cases h2:(n:Int)-x<k
  ·have b2:decide ((n:Int)-x<k)=true:=by simpa using h2
   rw[if_pos (by omega)];go_enter func240,ntmps240;go_wp2_with (go_at_call 241;refine(hw _).mono ?_;rintro e w' ⟨rfl,rfl⟩);go_ret;exact⟨rfl,rfl⟩
  have b2:decide ((n:Int)-x<k)=false:=by simpa using h2
  rw[if_neg (by omega)];have hd:=fun w=>zjq w k x hk0 (by omega);by_cases h3:x %k=0
  ·rw[if_neg (by omega)]
   have b3:(x %k==0)=true:=by simpa using h3
   rw[b3]at hd;clear b3 h3;go_enter func240,ntmps240;go_wp2_with (first|(go_at_call 241;refine(hw _).mono ?_;rintro e w' ⟨rfl,rfl⟩)|(go_at_call 284;refine(hd _).mono ?_;rintro e w' ⟨rfl,rfl⟩));go_ret;exact⟨rfl,rfl⟩
  ·rw[if_pos h3]
   have b3:(x %k==0)=false:=by simpa using h3
   rw[b3]at hd;clear b3 h3;go_enter func240,ntmps240;go_wp2_with (first|(go_at_call 241;refine(hw _).mono ?_;rintro e w' ⟨rfl,rfl⟩)|(go_at_call 284;refine(hd _).mono ?_;rintro e w' ⟨rfl,rfl⟩));go_ret;exact⟨rfl,rfl⟩
def ldV(l:List Nat)(x w:Int):Nat:=if zax l.length x w=0 then ldTo l x.toNat w.toNat else 0
theorem zw1(v b j:Nat)(hj:j<8)(hb:b<256)(hv:v<256^j):bits BinOp.or IntKind.u64 (v:Int) (IntKind.u64.wrap ((b:Int)*2^(8*j)))=((v+b*256^j:Nat):Int):=by
 have hp:(256:Nat)^j=2^(8*j):=by rw[Nat.pow_mul]
 have hp7:(256:Nat)^j≤256^7:=Nat.pow_le_pow_right (by decide) (by omega);have hm:b*256^j≤255*256^7:=Nat.mul_le_mul (by omega) hp7;have e1:((b:Int)*2^(8*j))=((b*256^j:Nat):Int):=by rw[hp];push_cast;rfl
 have e2:IntKind.u64.wrap ((b*256^j:Nat):Int)=((b*256^j:Nat):Int):=by
  have:IntKind.u64.wrap ((b*256^j:Nat):Int)=((b*256^j:Nat):Int) %18446744073709551616:=rfl;rw[this];omega
 have hv7:v<256^7:=Nat.lt_of_lt_of_le hv hp7;rw[e1,e2]
 have e3:((v|||(b*256^j):Nat))=v+b*256^j:=by
  rw[hp,←Nat.shiftLeft_eq,Nat.or_comm,←Nat.shiftLeft_add_eq_or_of_lt (by rw[←hp];exact hv),Nat.add_comm]
 have e4:bits BinOp.or IntKind.u64 (v:Int) ((b*256^j:Nat):Int)=IntKind.u64.wrap ((BitVec.ofInt 64 (v:Int)|||BitVec.ofInt 64 ((b*256^j:Nat):Int)).toNat:Int):=rfl;rw[e4,BitVec.ofInt_natCast,BitVec.ofInt_natCast,BitVec.toNat_or,BitVec.toNat_ofNat,BitVec.toNat_ofNat,Nat.mod_eq_of_lt (by omega),Nat.mod_eq_of_lt (by omega),e3];have:IntKind.u64.wrap ((v+b*256^j:Nat):Int)=((v+b*256^j:Nat):Int) %18446744073709551616:=rfl;rw[this];omega
theorem zsy(w:World)(a:Option Addr)(c:Nat)(l:List Nat)(h:l.length≤1099511627776)(x wd:Int)(hb:zax l.length x wd≠0):Calls prog 159 #[.slice a l.length c,.int .i64 x,.int .i64 wd] w fun e w'=>e= .returned (.tuple #[.int .u64 0,.int .i64 (zax l.length x wd)])∧w'=w:=by
 have hp:=fun w=>zpp w l.length x wd h;generalize zax l.length x wd=E at*;have he:((E:Int) !=0)=true:=by simp;omega
 generalize l.length=n at*;clear hb;go_enter func159,ntmps159;go_wp2_with (go_at_call 240;refine(hp _).mono ?_;rintro e w' ⟨rfl,rfl⟩);go_ret2;exact⟨rfl,rfl⟩
theorem zwe(w:World)(g o c:Nat)(l:List Nat)(x k:Nat)(hk:k=1∨k=2∨k=4∨k=8)(hx:x+k≤l.length)(hl:l.length≤1099511627776)
  (hcell:∀i,i<l.length→w.cell? ⟨g,o+i,none⟩=some (.int .u8 ((l[i]?.getD 0:Nat):Int))) (hby:∀b∈l,b<256) (hp:∀w,Calls prog 240 #[.int .i64 l.length,.int .i64 x,.int .i64 k] w fun e w'=>e= .returned (.int .i64 0)∧w'=w):
  Calls prog 159 #[.slice (some ⟨g,o,none⟩) l.length c,.int .i64 x,.int .i64 k] w fun e w'=>e= .returned (.tuple #[.int .u64 (ldTo l x k),.int .i64 0])∧w'=w:=by
 have HC:=hid hcell;have HB:=hid hby;clear hcell hby;have hk8:k≤8:=by omega
 generalize hn:l.length=n at*;have HN:=hid hn;clear hn hk;go_enter func159,ntmps159;go_wp2_with (go_at_call 240;refine(hp _).mono ?_;rintro e w' ⟨rfl,rfl⟩);go_loop [9,20] (fun v i=>∃j:Nat,j≤k∧i= .int .i64 j∧v= .int .u64 (ldTo l x j)) (fun _ i=>k-(intOf i).toNat);case atStart=>exact⟨0,by omega,rfl,rfl⟩
 case round=>
  obtain⟨j,hj,rfl,rfl⟩:=hrel;by_cases hlt:j<k
  ·have hc:=HC.out (x+j) (by omega)
   have hlo:=zo9 l HB.out x j;generalize hb:l[x+j]?.getD 0=b at*
   have hbb:b<256:=by
    rw[←hb];rcases h:l[x+j]? with _|c
    ·simp
    ·exact HB.out c (List.mem_of_getElem? h)
   have hs:ldTo l x (j+1)=ldTo l x j+b*256^j:=by rw[ldTo,hb]
   obtain⟨v',hv'⟩:∃v',v'=ldTo l x (j+1):=⟨_,rfl⟩;rw[←hv']at hs;have HW:=hid hv';clear hv';generalize ldTo l x j=v at*;have HS:=hid hs;have HV:=hid hlo;clear hs hb hlo;go_wp2;refine⟨⟨j+1,by omega,by go_num,?_⟩,by simp[intOf];omega⟩;rw[zw1 v b j (by omega) hbb HV.out,←HS.out,←HW.out]
  ·obtain rfl:j=k:=by omega
   go_wp2;go_ret2;exact⟨rfl,rfl⟩
theorem zem(w:World)(a:Option Addr)(c:Nat)(l:List Nat)(h:Byt w a l)(x wd:Int):Calls prog 159 #[.slice a l.length c,.int .i64 x,.int .i64 wd] w fun e w'=>e= .returned (.tuple #[.int .u64 (ldV l x wd),.int .i64 (zax l.length x wd)])∧w'=w:=by
 unfold ldV;by_cases hE:zax l.length x wd=0
 ·rw[if_pos hE]
  have hp:=fun w=>zpp w l.length x wd h.len;rw[hE]at hp⊢;unfold zax at hE;rcases hB:widB wd with _|_
  ·rw[hB]at hE;simp at hE
  ·obtain⟨k,rfl,hk⟩:=zc5 hB
   rw[hB]at hE;simp only[Bool.true_eq_false,if_false]at hE;by_cases h1:x<0∨(l.length:Int)<x∨(l.length:Int)-x<k
   ·rw[if_pos h1]at hE;simp at hE
   ·obtain⟨y,rfl⟩:∃y:Nat,x=y:=⟨x.toNat,by omega⟩
    obtain⟨g,o,rfl,h0,hlt⟩:=h.at_ 0 (by omega);rw[Int.toNat_natCast,Int.toNat_natCast]
    exact zwe w g o c l y k hk (by omega) h.len (fun i hi=>by
     obtain⟨g',o',e,hc,_⟩:=h.at_ i hi;injection e with e;injection e with e1 e2 e3;subst e1;subst e2;exact hc) h.byte hp
 ·rw[if_neg hE]
  exact zsy w a c l h.len x wd hE
def zaj(l:List Nat):List Value:=l.map fun k:Nat=>Value.int .u8 (k:Int)
def OwnB(w:World)(base:Nat)(v:Value)(l:List Nat):Prop:=w.ownsRow base 5 1 v l.length (zaj l)
theorem OwnB.nil(w:World)(base:Nat):OwnB w base (.slice none 0 0) [] :=⟨rfl,.inl ⟨rfl,rfl⟩⟩
theorem OwnB.made{w:World}{base g:Nat}{l:List Nat}(hb:base≤g)(h:Blk w g 5 (bytes l))(hl:l.length≤maxLen):OwnB w base (.slice (some ⟨g,0,none⟩) l.length l.length) l:=
 ⟨by simp[zaj],.inr ⟨g,l.length,bytes l,rfl,hb,h,Nat.le_refl _,hl,by simp[bytes],by simp[zaj,bytes];rw[List.take_of_length_le (by simp)]⟩⟩
theorem OwnB.alloc{w:World}{base:Nat}{v:Value}{l:List Nat}(h:OwnB w base v l)(o:Obj):OwnB (w.alloc o) base v l:=World.ownsRow.alloc h o
theorem OwnB.byt{w:World}{base:Nat}{v:Value}{l:List Nat}(h:OwnB w base v l)(hb:∀b∈l,b<256)(hl:l.length≤1099511627776):∃a c,v= .slice a l.length c∧Byt w a l∧(∀g o,a=some ⟨g,o,none⟩→base≤g):=by
 obtain⟨h1,⟨rfl,h2⟩|⟨g,cap,cur,rfl,hg,hh,hc,hm,hs,ht⟩⟩:=h
 ·refine⟨none,0,by rw[h2],⟨fun i hi=>by omega,hb,hl⟩,fun g o e=>by cases e⟩
 ·refine⟨_,_,rfl,⟨fun i hi=>⟨g,0,rfl,?_,Blk.lt hh⟩,hb,hl⟩,fun g' o e=>by injection e with e;injection e with e1 e2;omega⟩
  rw[Nat.zero_add,Blk.cell hh];have h3:(cur.toList.take (l.length*1))[i]?=(zaj l)[i]?:=by rw[ht]
  rw[List.getElem?_take_of_lt (by omega),Array.getElem?_toList]at h3;rw[h3,zaj,List.getElem?_map,List.getElem?_eq_getElem hi];rfl
theorem zj4:∃i,prog.info? 5=some i∧i.zero=some (.int .u8 0)∧i.size=1∧i.bytes=1:=by
 have h:(prog.info? 5).map (fun i=>(i.zero,i.size,i.bytes))=some (some (.int .u8 0),1,1):=by kernel_rfl
 cases e:prog.info? 5 with
 |none=>rw[e]at h;cases h
 |some i=>
  rw[e]at h;simp at h;exact⟨i,rfl,h.1,h.2.1,h.2.2⟩
theorem Fr.of_grown{w w':World}{row:Option Nat}{S:List Nat}(h:w.grownBy w' row)(hr:∀g,row=some g→g∈S):Fr S w w':=
 ⟨h.os,h.tape,h.output,h.size,fun k hk hn=>h.block k hk (fun e=>hn (hr k e.symm))⟩
theorem zi7(w:World)(base:Nat)(v:Value)(l:List Nat)(h:OwnB w base v l)(a:Option Addr)(c:Nat)(m:List Nat)(hm:Byt w a m)(hl:l.length+m.length≤1099511627776)(hbase:base≤w.heap.size):∃v' w',(Builtin.append_ #[44,44] 44 #[v,.slice a m.length c]).run prog w= .ok v' w'∧OwnB w' base v' (l++m)∧w.grownBy w' v.ownBlock∧(v'.ownBlock=v.ownBlock∨v'.ownBlock=some w.heap.size):=by
 obtain⟨i,hi,hz,hs,hb⟩:=zj4;rcases a with _|ad
 ·have hm0:m= [] :=by
   rcases m with _|⟨x,m⟩
   ·rfl
   ·obtain⟨g,o,e,_⟩:=hm.at_ 0 (by simp)
    cases e
  subst hm0;refine⟨v,w,?_,by simpa using h,World.grownBy.refl w _,.inl rfl⟩;obtain⟨h1,⟨rfl,h2⟩|⟨g,cap,cur,rfl,hg,hh,hc,_⟩⟩:=h
  ·have:l= [] :=List.eq_nil_of_length_eq_zero h2
   subst this;simp[Builtin.append_,run_underlying underlying44,sizeOf,typeInfo,hi,Builtin.lenOf,Builtin.firstCells]
  ·simp[Builtin.append_,run_underlying underlying44,sizeOf,typeInfo,hi,Builtin.lenOf,Builtin.firstCells,hc,storeCells]
 ·have hcells:∀j u,(zaj m)[j]?=some u→w.cell? (ad.add j)=some u:=by
   intro j u hu
   have hj:j<m.length:=by
    have:=(List.getElem?_eq_some_iff.1 hu).1;simpa[zaj]using this
   obtain⟨g,o,e,hc,_⟩:=hm.at_ j hj;injection e with e;subst e;have hadd:(⟨g,o,none⟩:Addr).add j=⟨g,o+j,none⟩:=by unfold Addr.add;split<;>simp_all
   rw[hadd,hc];rw[zaj,List.getElem?_map,List.getElem?_eq_getElem hj]at hu;rw[List.getElem?_eq_getElem hj];exact hu
  have key:=fun ty=>run_append_own_at (P:=prog) w base 44 ty 5 i (.int .u8 0) 1 1 underlying44 hi hz hs hb rfl (by decide) v l.length (zaj l) h ad m.length c (zaj m) (by simp[zaj]) hcells (fun u hu=>by
   obtain⟨k,_,rfl⟩:=List.mem_map.1 hu;rfl) (by unfold maxLen;omega) (by omega) hbase
  obtain⟨v',w',hrun,h2,h3,_,h5⟩:=key 44;refine⟨v',w',hrun,?_,h3,h5⟩;unfold OwnB;rw[List.length_append,zaj,List.map_append];exact h2
theorem OwnB.fr{w0 w w':World}{base:Nat}{v:Value}{l:List Nat}(h:OwnB w base v l)(hg:w.grownBy w' v.ownBlock)(hf:Fr [] w0 w)(hb:w0.heap.size≤base):Fr [] w0 w':=by
 have hno:∀k,k<base→some k≠v.ownBlock:=by
  obtain⟨h1,⟨rfl,h2⟩|⟨g,cap,cur,rfl,hgb,_⟩⟩:=h
  ·intro k _ e;cases e
  ·intro k hk e
   injection e with e;have e2:k=g:=e;omega
 exact⟨hg.os.trans hf.os,hg.tape.trans hf.tape,hg.output.trans hf.output,Nat.le_trans hf.size hg.size,fun k hk hn=>(hg.block k (Nat.lt_of_lt_of_le hk hf.size) (hno k (by omega))).trans (hf.block k hk hn)⟩
theorem zyy{w:World}{o:Oper}{a:Act}{K:Act→World→Prop}{Q:Exit→Act→World→Prop}(s x:Operand)(ho:o.op= .call {callee:= .builtin .append,args:= #[s,x],argTypes:= #[44,44]})(hty:o.type=44)
  (base:Nat) (v:Value) (l:List Nat) (hs:a.eval s=v) (hown:OwnB w base v l) (A:Option Addr) (c n:Nat) (m:List Nat) (hn:m.length=n) (hx:a.eval x= .slice A n c) (hm:Byt w A m)
  (hl:l.length+m.length≤1099511627776) (hbase:base≤w.heap.size)
  (h: ∀v' w',OwnB w' base v' (l++m)→w.grownBy w' v.ownBlock→(v'.ownBlock=v.ownBlock∨v'.ownBlock=some w.heap.size)→K (a.put o.dst v') w'):o.wp prog a w K Q:=by
 subst hn
 obtain⟨v',w',hrun,h2,h3,h4⟩:=zi7 w base v l hown A c m hm hl hbase
 unfold Oper.wp execOp
 simp only[ho,hty,resolve,invoke,builtin,Sem.run_bind,Sem.run_pure,Result.andThen_ok,List.map_toArray,List.map_cons,List.map_nil,hs,hx,hrun]
 exact h v' w' h2 h3 h4
theorem zf4{w:World}{ops:Array Oper}{rest:List Oper}{o:Oper}{a:Act}{Q:Exit→Act→World→Prop}(hgd:o.guard=none)(s x:Operand)(ho:o.op= .call {callee:= .builtin .append,args:= #[s,x],argTypes:= #[44,44]})(hty:o.type=44)
  (base:Nat) (v:Value) (l:List Nat) (hs:a.eval s=v) (hown:OwnB w base v l) (A:Option Addr) (c n:Nat) (m:List Nat) (hn:m.length=n) (hx:a.eval x= .slice A n c) (hm:Byt w A m)
  (hl:l.length+m.length≤1099511627776) (hbase:base≤w.heap.size)
  (h: ∀v' w',OwnB w' base v' (l++m)→w.grownBy w' v.ownBlock→(v'.ownBlock=v.ownBlock∨v'.ownBlock=some w.heap.size)→wpList prog ops Q rest (a.put o.dst v') w'):wpList prog ops Q (o::rest) a w:=
 wpList_plain hgd fun _ hK=>zyy s x ho hty base v l hs hown A c n m hn hx hm hl hbase fun v' w' h2 h3 h4=>hK _ _ (h v' w' h2 h3 h4)
def intC(l:List Nat):List Value:=l.map fun k:Nat=>Value.int .i64 (k:Int)
def RowI(w:World)(g cap:Nat)(l:List Nat):Prop:= ∃cur,Blk w g 3 cur∧cur.size=cap∧l.length≤cap∧cur.toList.take l.length=intC l
section
variable {w w' : World} {g cap : Nat} {l : List Nat} {S : List Nat}
theorem RowI.fr(h:RowI w g cap l)(hf:Fr S w w')(hg:g∉S):RowI w' g cap l:=by
 obtain⟨cur,hb,h1,h2,h3⟩:=h;exact⟨cur,hb.fr hf hg,h1,h2,h3⟩
theorem RowI.lt(h:RowI w g cap l):g<w.heap.size:=by
 obtain⟨cur,hb,_⟩:=h;exact hb.lt
theorem RowI.cell(h:RowI w g cap l)(j:Nat)(hj:j<l.length):w.cell? ⟨g,j,none⟩=some (.int .i64 (l[j] :Int)):=by
 obtain⟨cur,hb,h1,h2,h3⟩:=h;rw[hb.cell,←Array.getElem?_toList];have e:(cur.toList.take l.length)[j]?=(intC l)[j]?:=by rw[h3]
 rw[List.getElem?_take_of_lt hj]at e;rw[e];simp[intC,hj]
theorem zob{base:Nat}{v:Value}(h:w.ownsRow base 3 1 v l.length (intC l)):(l= []∧v= .slice none 0 0)∨∃g cap,v= .slice (some ⟨g,0,none⟩) l.length cap∧base≤g∧RowI w g cap l:=by
 obtain⟨h1,⟨h2,h3⟩|⟨g,cap,cur,rfl,hb,hg,r1,r2,r3,r4⟩⟩:=h
 ·exact .inl ⟨List.length_eq_zero_iff.1 h3,h2⟩
 ·rw[Nat.mul_one]at r3 r4
  exact .inr ⟨g,cap,rfl,hb,cur,hg,r3,r1,r4⟩
end
def RowV(w:World)(base:Nat)(ad:Option Addr)(cap:Nat)(l:List Nat):Prop:=0<l.length→ ∃g,ad=some ⟨g,0,none⟩∧base≤g∧RowI w g cap l
theorem ze3{w:World}{l:List Nat}{base:Nat}{v:Value}(h:w.ownsRow base 3 1 v l.length (intC l)):∃ad cap,v= .slice ad l.length cap∧RowV w base ad cap l:=by
 rcases zob h with⟨rfl,rfl⟩|⟨g,cap,rfl,hb,hr⟩
 ·exact⟨none,0,rfl,fun h=>absurd h (by simp)⟩
 ·exact⟨_,cap,rfl,fun _=>⟨g,rfl,hb,hr⟩⟩
theorem RowV.fr{w w':World}{base cap:Nat}{ad:Option Addr}{l:List Nat}{S:List Nat}(h:RowV w base ad cap l)(hf:Fr S w w')(hS:∀k∈S,k<base):RowV w' base ad cap l:=fun h0=>by
 obtain⟨g,e,hb,hr⟩:=h h0;exact⟨g,e,hb,hr.fr hf (fun hm=>by have:=hS _ hm;omega)⟩
def zbp(n:Nat)(f:Nat→Int):Array Value:=((List.range n).map fun i=>Value.int .i64 (f i)).toArray
theorem zgd(n:Nat)(f:Nat→Int):(zbp n f).size=n:=by simp[zbp]
theorem zpi(n:Nat)(f:Nat→Int)(i:Nat)(h:i<n):(zbp n f)[i]?=some (.int .i64 (f i)):=by simp[zbp,h]
theorem zi9{n:Nat}{f k:Nat→Int}(h:∀i,i<n→f i=k i):zbp n f=zbp n k:=by
 unfold zbp;congr 1;exact List.map_congr_left fun i hi=>by rw[h i (List.mem_range.1 hi)]
theorem zos(n:Nat)(f k:Nat→Int)(i:Nat)(v:Int)(h:∀j,j<n→k j=if j=i then v else f j):(zbp n f).setIfInBounds i (.int .i64 v)=zbp n k:=by
 apply Array.ext
 ·simp[zbp]
 ·intro j h1 h2
  have hj:j<n:=by rw[zgd]at h2;exact h2
  rw[Array.getElem_setIfInBounds (by rw[zgd];exact hj)];simp only[zbp,List.getElem_toArray,List.getElem_map,List.getElem_range];rw[h j hj];by_cases e:i=j
  ·rw[if_pos e,if_pos e.symm]
  ·rw[if_neg e,if_neg (fun k=>e k.symm)]
theorem Blk.setF{w:World}{g n:Nat}{t:TypeId}{f:Nat→Int}(h:Blk w g t (zbp n f))(k:Nat→Int)(i:Nat)(v:Int)(hk:∀j,j<n→k j=if j=i then v else f j):Blk (w.setCell ⟨g,i,none⟩ (.int .i64 v)) g t (zbp n k):=by
 have:=h.set i (.int .i64 v);rw[zos n f k i v hk]at this;exact this
theorem Blk.cellF{w:World}{g n:Nat}{t:TypeId}{f:Nat→Int}(h:Blk w g t (zbp n f))(i:Nat)(hi:i<n):w.cell? ⟨g,i,none⟩=some (.int .i64 (f i)):=(h.cell i).trans (zpi n f i hi)
theorem zi6(n:Nat):madeCells #[.int .i64 0] n=zbp n (fun _=>0):=by
 apply Array.ext
 ·simp[madeCells,zbp]
 ·intro i h1 h2
  simp[madeCells,zbp,Nat.mod_one]
theorem zlu{P:Program}(t e:TypeId)(ht:P.underlying t=some (.slice e))(hinfo:(P.info? e).map (fun i=>(i.zero,i.size,i.bytes))=some (some (.int .i64 0),1,8))
  (kl kc:IntKind) (n:Nat) (h:n≤1048576) (w:World):
  (Instr.makeSlice t (.int kl (n:Int)) (.int kc (n:Int))).run P w= .ok (.slice (some ⟨w.heap.size,0,none⟩) n n) (w.alloc (.cells (zbp n (fun _=>0)) e)):=by
 rw[←zi6];exact run_make_row' t e (.int .i64 0) 8 ht hinfo rfl kl kc n (by omega) (by omega) w
theorem zg6:(prog.info? 3).map (fun i=>(i.zero,i.size,i.bytes))=some (some (.int .i64 0),1,8):=by kernel_rfl
section
def Keep2(b:Nat)(W W':World):Prop:=W'.heap[b]?=W.heap[b]?∧W'.heap[b+1]?=W.heap[b+1]?
theorem Keep2.refl(b:Nat)(W:World):Keep2 b W W:=⟨rfl,rfl⟩
theorem Keep2.trans{b:Nat}{A B C:World}(h:Keep2 b A B)(k:Keep2 b B C):Keep2 b A C:=⟨k.1.trans h.1,k.2.trans h.2⟩
theorem Fr.keep2{S:List Nat}{b:Nat}{W W':World}(h:Fr S W W')(h1:b+1<W.heap.size)(hS:b∉S∧b+1∉S):Keep2 b W W':=⟨h.block b (by omega) hS.1,h.block (b+1) h1 hS.2⟩
theorem Fr.putObj{S:List Nat}{W:World}(l:Nat)(o:Obj)(hl:l∈S):Fr S W (W.putObj l o):=
 ⟨rfl,rfl,rfl,by simp[World.putObj],fun k hk hn=>World.putObj_heap_other (fun e=>hn (e▸hl))⟩
def zvx{α:Type}(b:Nat)(I:List α→World→Prop)(Ix:Code→List α→World→Prop)(xs:List α)(W:World):Exit→Act→World→Prop
 | .normal,_,W'=>Keep2 b W W'∧I xs W'
 | .ret,_,W'=>Keep2 b W W'∧Ix .ret xs W'
 | .exit id,_,W'=>Keep2 b W W'∧Ix (.exit id) xs W'
 | .goto t,_,W'=>Keep2 b W W'∧Ix (.goto t) xs W'
 | .panic _,_,_=>False
 | .outgrown,_,_=>False
variable {F : Fence} {n : Nat} {P : Program}
def zux{α:Type}(F:Fence)(n:Nat)(P:Program)(g:Nat)(lb:Array Value)(encs:α→Array Value)(M:World→Prop)(Step:World→World→Prop)(Ok:List α→α→Prop)(S Sp:List α→Prop):Prop:=
 ∀(l:Nat) (J Jx:List α→World→Prop) (W:World),(∀s A,J s A→M A)→(∀s A B,J s A→Step A B→J s B)→(∀s A B,Jx s A→Step A B→Jx s B)→
  (∀pre x A,Ok pre x→J pre A→YieldAt F (n-1) P l (encs x) A fun e B=>(e= .returned (.bool true)∧J (pre++ [x]) B)∨(e= .returned (.bool false)∧Jx (pre++ [x]) B))→
  J [] W→CallsIn F n P g (#[.func (.yield l) #[] #[]] ++lb) W fun e B=>(∃v,e= .returned v)∧((∃xs,S xs∧J xs B)∨(∃pre,Sp pre∧Jx pre B))
theorem zkm{α:Type}{g:Operand}{ps:Array Tmp}{assign body:Code}{Q:Exit→Act→World→Prop}{a:Act}{w:World}
  (hro:F.round=none) (h1:1≤n) {gf:Nat} {lb:Array Value} (hg:a.eval g= .func (.func gf) #[] lb) (hFg:F.fn gf) (eg: ∀args w,(callFunc gf args).run P w= .ok (.enter gf args) w)
  {encs:α→Array Value} {M:World→Prop} {Step:World→World→Prop} {Ok:List α→α→Prop} {S Sp:List α→Prop} (hseq:zux F (n-1) P gf lb encs M Step Ok S Sp) (hps: ∀x,(encs x).size=ps.size)
  (hStep: ∀A B,w.heap.size+1<A.heap.size→M A→Step A B→Keep2 w.heap.size A B∧A.heap.size≤B.heap.size)
  (I:List α→World→Prop) (Ix:Code→List α→World→Prop) (hIM: ∀s A,I s A→M A) (hXM: ∀c s A,Ix c s A→M A)
  (hI: ∀s A B,I s A→Fr [w.heap.size,w.heap.size+1] A B→I s B) (hIx: ∀c s A B,Ix c s A→Fr [w.heap.size,w.heap.size+1] A B→Ix c s B)
  (hIs: ∀s A B,I s A→Step A B→I s B) (hXs: ∀c s A B,Ix c s A→Step A B→Ix c s B) (h0:I [] w)
  (Ax:α→Act→World→Prop) (hAx: ∀x a' A B,Ax x a' A→Fr [w.heap.size,w.heap.size+1] A B→Ax x a' B)
  (hassign: ∀(l:Nat) (pre:List α) (x:α) (W:World) (K:Act→World→Prop),w.heap.size+1<W.heap.size→I pre W→(∀a' W',Keep2 w.heap.size W W'→I pre W'→Ax x a' W'→K a' W')→
   assign.wpIn (F.inRound l) (n-1-1) P (Exit.then K (fun _ _ _=>False)) {tmps:=(ps.zip (encs x)).foldl (fun t (p,v)=>t.setIfInBounds p v) a.tmps,defers:= []} W)
  (hbody: ∀(l:Nat) (pre:List α) (x:α) (a':Act) (W:World),w.heap.size+1<W.heap.size→Ok pre x→I pre W→Ax x a' W→body.wpIn (F.inRound l) (n-1-1) P (zvx w.heap.size I Ix (pre++ [x]) W) a' W)
  (hdone: ∀(D:Nat) (xs:List α) (W:World),w.heap.size≤D→S xs→I xs W→W.heap[D]?=some (.deferred (some []))→Q .normal {a with defers:={target:= .collected D,args:= #[]}::a.defers} W)
  (hstop: ∀(D:Nat) (c:Code) (pre:List α) (W:World),w.heap.size≤D→Sp pre→Ix c pre W→W.heap[D]?=some (.deferred (some []))→c.wpIn F n P Q {a with defers:={target:= .collected D,args:= #[]}::a.defers} W):
  (Code.rangeFunc g ps assign body).wpIn F n P Q a w:=by
 refine wpIn_rangeFunc fun fn hfn=> ?_
 rw[hro]
 generalize hb:w.heap.size=b at*
 obtain⟨rec,hrec⟩: ∃rec:LoopState→Option Code→Loop,rec=fun st pe=>{state:=st,pending:=pe,fn,tmps:=a.tmps,params:=ps,assign,body,defers:=b}:=⟨_,rfl⟩
 have e0:(Instr.enterLoop fn a.tmps ps assign body none).run P w= .ok (b+1,[{target:= .collected b,args:= #[]}]) ((w.alloc (.deferred (some []))).alloc (.loop (rec .ready none))):=by
  rw[hrec,←hb];exact run_enterLoop_outer _ _ _ _ _
 have hf0:Fr [b,b+1] w ((w.alloc (.deferred (some []))).alloc (.loop (rec .ready none))):=((Fr.refl _ _).alloc _).alloc _
 have hL0:((w.alloc (.deferred (some []))).alloc (.loop (rec .ready none))).heap[b+1]?=some (.loop (rec .ready none)):=by
  have:=World.alloc_heap_new (w.alloc (.deferred (some []))) (.loop (rec .ready none));rwa[World.size_alloc,hb]at this
 have hD0:((w.alloc (.deferred (some []))).alloc (.loop (rec .ready none))).heap[b]?=some (.deferred (some [])):=by
  rw[←hb];exact(Below.heap_alloc _ _ _ (by simp)).trans (World.alloc_heap_new w _)
 generalize(w.alloc (.deferred (some []))).alloc (.loop (rec .ready none))=W1 at*
 have lt_of: ∀{A:World} {o:Obj},A.heap[b+1]?=some o→b+1<A.heap.size:=fun h=>(Array.getElem?_eq_some_iff.1 h).1
 refine⟨b+1,[{target:= .collected b,args:= #[]}],W1,{target:= .fn (.func gf) lb,args:= #[.func (.yield (b+1)) #[] #[]]},W1,gf,#[.func (.yield (b+1)) #[] #[]] ++lb,W1,e0,?_,?_,?_,fun _=>h1,?_⟩
 ·simp only[resolve,hg]
  simp[go_sem]
 ·intro f' hf';simp[Target.leads]at hf';subst hf';exact hFg
 ·simp[invoke,go_sem,eg]
 refine(hseq (b+1)
  (fun s A=>I s A∧A.heap[b+1]?=some (.loop (rec .ready none))∧A.heap[b]?=some (.deferred (some [])))
  (fun s A=> ∃c,Ix c s A∧A.heap[b+1]?=some (.loop (rec .done (some c)))∧A.heap[b]?=some (.deferred (some [])))
  W1 (fun s A h=>hIM s A h.1)
  (fun s A B ⟨hi,hl,hd⟩ hs=>by
   obtain⟨k,_⟩:=hStep A B (lt_of hl) (hIM s A hi) hs
   exact⟨hIs s A B hi hs,k.2.trans hl,k.1.trans hd⟩)
  (fun s A B ⟨c,hi,hl,hd⟩ hs=>by
   obtain⟨k,_⟩:=hStep A B (lt_of hl) (hXM c s A hi) hs
   exact⟨c,hXs c s A B hi hs,k.2.trans hl,k.1.trans hd⟩)
  ?_ ⟨hI _ _ _ h0 hf0,hL0,hD0⟩).mono ?_
 ·rintro pre x A hok ⟨hi,hl,hd⟩
  have hy:=run_yield (P:=P) (args:=encs x) hl (by rw[hrec];exact hps x)
  rw[hrec]at hy
  refine⟨fn,_,assign,body,hy,roundIn_of_wpIn hfn (hassign _ pre x A _ (lt_of hl) hi ?_)⟩
  intro a' A2 k2 hi2 hax
  have hl2:=k2.2.trans hl
  have hd2:=k2.1.trans hd
  refine⟨_,run_beginRound hl2 (by rw[hrec]),?_⟩
  have fp: ∀(A:World) (o:Obj),Fr [b,b+1] A (A.putObj (b+1) o):=fun A o=>Fr.putObj _ _ (by simp)
  have hl3:(A2.putObj (b+1) (.loop {rec .ready none with state:= .busy})).heap[b+1]?=some (.loop {rec .ready none with state:= .busy}):=World.putObj_heap_same (lt_of hl2)
  have hd3:(A2.putObj (b+1) (.loop {rec .ready none with state:= .busy})).heap[b]?=some (.deferred (some [])):=(World.putObj_heap_other (by omega)).trans hd2
  refine wpIn_mono (hbody _ pre x a' _ (lt_of hl3) hok (hI _ _ _ hi2 (fp _ _)) (hAx _ _ _ _ hax (fp _ _))) ?_
  generalize A2.putObj (b+1) (.loop {rec .ready none with state:= .busy})=A3 at*
  have fin: ∀(jump:Option Code) (A4:World),Keep2 b A3 A4→
    (Instr.endRound (b+1) jump).run P A4= .ok (.bool jump.isNone) (A4.putObj (b+1) (.loop (rec (if jump.isNone then .ready else .done) jump)))∧
    (A4.putObj (b+1) (.loop (rec (if jump.isNone then .ready else .done) jump))).heap[b+1]?=some (.loop (rec (if jump.isNone then .ready else .done) jump))∧
    (A4.putObj (b+1) (.loop (rec (if jump.isNone then .ready else .done) jump))).heap[b]?=some (.deferred (some [])):=fun jump A4 k=>by
   have hl4:=k.2.trans hl3
   have hr:=run_endRound (P:=P) jump hl4
   rw[hrec]at hr⊢
   exact⟨hr,World.putObj_heap_same (lt_of hl4),(World.putObj_heap_other (by omega)).trans (k.1.trans hd3)⟩
  rintro e a3 A4 hp
  cases e with
  |normal=>
   obtain⟨k,h⟩:=hp
   obtain⟨r1,r2,r3⟩:=fin none A4 k
   exact⟨_,_,r1,.inl ⟨rfl,hI _ _ _ h (fp _ _),r2,r3⟩⟩
  |ret=>
   obtain⟨k,h⟩:=hp
   obtain⟨r1,r2,r3⟩:=fin (some .ret) A4 k
   exact⟨_,_,r1,.inr ⟨rfl,.ret,hIx _ _ _ _ h (fp _ _),r2,r3⟩⟩
  |exit id=>
   obtain⟨k,h⟩:=hp
   obtain⟨r1,r2,r3⟩:=fin (some (.exit id)) A4 k
   exact⟨_,_,r1,.inr ⟨rfl,.exit id,hIx _ _ _ _ h (fp _ _),r2,r3⟩⟩
  |goto t=>
   obtain⟨k,h⟩:=hp
   obtain⟨r1,r2,r3⟩:=fin (some (.goto t)) A4 k
   exact⟨_,_,r1,.inr ⟨rfl,.goto t,hIx _ _ _ _ h (fp _ _),r2,r3⟩⟩
  |panic ch=>exact hp.elim
  |outgrown=>exact hp.elim
 ·have fp: ∀(A:World) (o:Obj),Fr [b,b+1] A (A.putObj (b+1) o):=fun A o=>Fr.putObj _ _ (by simp)
  rintro e A ⟨⟨v,rfl⟩,⟨xs,hS,hi,hl,hd⟩|⟨pre,hSp,c,hi,hl,hd⟩⟩
  ·have hr:=run_endLoop (P:=P) hl (by rw[hrec];simp)
   rw[hrec]at hr
   exact⟨none,_,hr,hdone b xs _ (Nat.le_refl _) hS (hI _ _ _ hi (fp _ _)) ((World.putObj_heap_other (by omega)).trans hd)⟩
  ·have hr:=run_endLoop (P:=P) hl (by rw[hrec];simp)
   rw[hrec]at hr
   exact⟨some c,_,hr,hstop b c pre _ (Nat.le_refl _) hSp (hIx _ _ _ _ hi (fp _ _)) ((World.putObj_heap_other (by omega)).trans hd)⟩
end
section
open Go.ChangeShapes Go.WideShapes Go.Deep Go.RowKit
section
variable {H : Type}
end
theorem zns{w:World}{a:Addr}{v:Value}(h:w.cell? a=some v):a.block<w.heap.size:=by
 unfold World.cell? at h;cases hb:w.heap[a.block]? with
 |none=>rw[hb]at h;cases h
 |some o=>exact(Array.getElem?_eq_some_iff.1 hb).1
theorem zm7{α:Type}(P:Nat→α→Prop):∀n:Nat,(∀i,i<n→∃x,P i x)→∃l:List α,l.length=n∧∀i (h:i<l.length),P i l[i]
 |0,_=>⟨[],rfl,fun i h=>by simp at h⟩
 |n+1,h=>by
  obtain⟨l,hl,hp⟩:=zm7 P n (fun i hi=>h i (by omega));obtain⟨x,hx⟩:=h n (by omega);refine⟨l++ [x],by simp[hl],fun i hi=> ?_⟩;by_cases h2:i<l.length
  ·rw[List.getElem_append_left h2];exact hp i h2
  ·have:i=n:=by simp at hi;omega
   subst this;rw[List.getElem_append_right (by omega)];simpa[hl]using hx
end
section
open Go.ChangeShapes Go.WideShapes Go.ChangeAt Go.RowKit
end
end Go.Proofs.YtolhkhdbgnciiaaGreatDoor
