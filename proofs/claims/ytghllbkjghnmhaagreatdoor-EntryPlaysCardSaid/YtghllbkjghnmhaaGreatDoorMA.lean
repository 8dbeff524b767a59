/- Several texts in one. -/
import Derived.Shelf.Strings.Builder2
import Derived.Test.YtghllbkjghnmhaaGreatDoorKD
namespace Go.Proofs.YtghllbkjghnmhaaGreatDoor
open _root_.Go.Proofs.Tryz
open Go.Lib (hid)
open Go.IntWalk (i64_in)
set_option linter.unusedVariables false
set_option linter.unusedSimpArgs false
open Go.RowKit
set_option maxRecDepth 100000
set_option maxHeartbeats 4000000
def labB(c:Nat):Bool:=decide (33≤c)&&decide (c≤126)&& !(c==46)
def zuz(l:List Nat):Bool:=decide (1≤l.length)&&decide (l.length≤63)&&l.all labB
theorem Fr.iterAt{S:List Nat}{w w':World}(h:Fr S w w'){k:Nat}(hk:w.heap.size≤k)(s:ByteArray)(p:Nat):Fr S w (w'.iterAt k s p):=by
 refine⟨h.os,h.tape,h.output,?_,fun j hj hn=> ?_⟩
 ·rw[Lib.iterAt_size];exact h.size
 ·rw[Lib.iterAt_other _ _ _ _ _ (by omega)];exact h.block j hj hn
theorem zu0(w:World)(r:Int)(b:Bool)(hb:(decide (33≤r)&&decide (r≤126)&&(r !=46))=b):Calls prog 290 #[.int .i32 r] w (zE b w):=by
 cases h1:decide ((33:Int)≤r)with
 |false=>
  rw[h1]at hb;obtain rfl:b=false:=by simpa using hb.symm
  go_in;go_wp2;go_ret;exact⟨rfl,rfl⟩
 |true=>
  cases h2:decide (r≤(126:Int))with
  |false=>
   rw[h1,h2]at hb;obtain rfl:b=false:=by simpa using hb.symm
   go_in;go_wp2;go_ret;exact⟨rfl,rfl⟩
  |true=>
   rw[h1,h2,Bool.true_and,Bool.true_and]at hb;go_in;go_wp2;go_ret;exact⟨rfl,rfl⟩
theorem zu1(l:List Nat):(za0 l).size=l.length:=by simp[za0,ByteArray.size]
theorem zu2(l:List Nat)(hl:∀b∈l,b<256)(p:Nat)(h:p<(za0 l).size):((za0 l)[p]'h).toNat=l[p]?.getD 0:=by
 have h2:p<l.length:=by rw[zu1]at h;exact h
 have e:((za0 l)[p]'h)=UInt8.ofNat (l[p]):=by
  show((za0 l).data[p]'_)=_;simp[za0]
 rw[e,List.getElem?_eq_getElem h2];simpa using Nat.mod_eq_of_lt (hl _ (List.getElem_mem h2))
theorem zu3(c:Nat):(decide ((33:Int)≤(c:Int))&&decide ((c:Int)≤126)&&((c:Int) !=46))=labB c:=by
 unfold labB;rw[show decide ((33:Int)≤(c:Int))=decide (33≤c)from decide_eq_decide.2 (by omega),show decide ((c:Int)≤126)=decide (c≤126)from decide_eq_decide.2 (by omega)];congr 1;rw[bne,show((c:Int)==46)=(c==46)from by rw[Bool.eq_iff_iff,beq_iff_eq,beq_iff_eq];omega]
theorem zu4(c:Nat)(h:127≤c):labB c=false:=by
 unfold labB;rw[show decide (c≤126)=false from decide_eq_false (by omega)];simp
theorem fall(w:World)(l:List Nat)(hl:∀b∈l,b<256):Calls prog 289 #[.string (za0 l),.func (.func 290) #[] #[]] w (zN (.bool (l.all labB)) w):=by
 have HF:=hid (fun W (r:Nat)=>zu0 W r (labB r) (zu3 r));have HS:=hid (zu1 l);have HAt:=hid (zu2 l hl);have HA:=hid (show∀p,p<l.length→l[p]?=some (l[p]?.getD 0)from fun p hp=>by rw[List.getElem?_eq_getElem hp];rfl);generalize hs:za0 l=s at HS HAt⊢;clear hs;go_in;go_wp2;go_loopw [] (fun wr=>∃(pos:Nat),pos≤l.length∧(∀i,i<pos→labB (l[i]?.getD 0)=true)∧wr.heap[w.heap.size]?=some (.stringIter s pos)∧Fr [] w wr) (fun wr=>s.size-wr.iterPos w.heap.size)
 case atStart=>
  exact⟨0,Nat.zero_le _,fun i hi=>absurd hi (Nat.not_lt_zero _),World.iter_heap w s 0,(Fr.refl _ _).alloc _⟩
 case round=>
  obtain⟨pos,hpl,hbe,hit,hF⟩:=hrel;have HB:=hid hbe;by_cases hp:pos<s.size
  ·have hpl2:pos<l.length:=by have:=HS.out;omega
   have hby:=HAt.out pos hp;have hval:=HA.out pos hpl2;by_cases ha:(s[pos]'hp).toNat<128
   ·have hnx:∀ty,(Instr.next (.pointer (some ⟨w.heap.size,0,none⟩)) true ty).run prog wr=_:=fun ty=>Lib.run_next_ascii_at wr w.heap.size s pos ty hit hp ha
    rw[hby]at hnx;generalize l[pos]?.getD 0=c at*;have hF2:=hF.iterAt (Nat.le_refl _) s (pos+1);have hit2:=hid (Lib.iterAt_heap wr w.heap.size s pos (pos+1) hit);have hit1:=hid hit;have hfc:=HF.out (wr.iterAt w.heap.size s (pos+1)) c;have HV:=hid hval;clear hbe hit hby hval;cases hc:labB c with
    |true=>
     rw[hc]at hfc;go_wp2_with fail;go_call hfc as e w1 ⟨rfl,rfl⟩;go_wp2;go_roundw
     case rel=>exact⟨pos+1,hpl2,fun i hi=>by
      rcases Nat.lt_or_ge i pos with h|h
      ·exact HB.out i h
      ·obtain rfl:i=pos:=by omega
       rw[HV.out];exact hc,hit2.out,hF2⟩
     case measure=>
      simp only[World.iterPos,hit2.out,hit1.out];omega
    |false=>
     rw[hc]at hfc;go_wp2_with fail;go_call hfc as e w1 ⟨rfl,rfl⟩;go_wp2;go_ret;have hE:l.all labB=false:=List.all_eq_false.2 ⟨c,List.mem_of_getElem? HV.out,by rw[hc];decide⟩;rw[hE];exact⟨rfl,hF2⟩
   ·have hh:=decode_high s pos hp (by omega)
    have hnx:∀ty,(Instr.next (.pointer (some ⟨w.heap.size,0,none⟩)) true ty).run prog wr=_:=fun ty=>Lib.run_next_any_at wr w.heap.size s pos ty hit hp;have hF2:=hF.iterAt (Nat.le_refl _) s (pos+(Utf8.decode s pos).2);have hfc:=HF.out (wr.iterAt w.heap.size s (pos+(Utf8.decode s pos).2)) (Utf8.decode s pos).1;rw[zu4 _ (by omega)]at hfc;have HV:=hid (And.intro hval (show labB (l[pos]?.getD 0)=false from zu4 _ (by omega)));clear hbe hit hby hval hh ha;go_wp2_with fail;go_call hfc as e w1 ⟨rfl,rfl⟩;go_wp2;go_ret;have hE:l.all labB=false:=List.all_eq_false.2 ⟨_,List.mem_of_getElem? HV.1,by rw[HV.2];decide⟩;rw[hE];exact⟨rfl,hF2⟩
  ·have hnx:∀ty,(Instr.next (.pointer (some ⟨w.heap.size,0,none⟩)) true ty).run prog wr=_:=fun ty=>Lib.run_next_end_at wr w.heap.size s pos ty hit hp
   have HE:=hid (show l.all labB=true from by
    rw[List.all_eq_true];intro x hx;obtain⟨i,hi,rfl⟩:=List.mem_iff_getElem.1 hx;have:=hbe i (by have:=HS.out;omega);rw[List.getElem?_eq_getElem hi]at this;exact this)
   clear hbe;go_wp2;go_ret;rw[HE.out];exact⟨rfl,hF⟩
theorem zu5(w:World)(l:List Nat)(hl:∀b∈l,b<256):Calls prog 223 #[.string (za0 l)] w (zN (.int .i64 (if zuz l then 0 else 20)) w):=by
 have ha:=fun W=>fall W l hl;have hs:=zu1 l;unfold zuz;by_cases h1:l.length<1
 ·have b1:decide (((za0 l).size:Int)<1)=true:=decide_eq_true (by rw[hs];omega)
  have b1':decide ((za0 l).size<1)=true:=decide_eq_true (by rw[hs];omega);rw[show decide (1≤l.length)=false from decide_eq_false (by omega)];clear hs;generalize za0 l=s at*;go_in;go_wp2;go_ret;exact⟨rfl,Fr.refl _ _⟩
 ·have b1:decide (((za0 l).size:Int)<1)=false:=decide_eq_false (by rw[hs];omega)
  have b1':decide ((za0 l).size<1)=false:=decide_eq_false (by rw[hs];omega);rw[show decide (1≤l.length)=true from decide_eq_true (by omega)];by_cases h2:63<l.length
  ·have b2:decide ((63:Int)<((za0 l).size:Int))=true:=decide_eq_true (by rw[hs];omega)
   have b2':decide (63<(za0 l).size)=true:=decide_eq_true (by rw[hs];omega);rw[show decide (l.length≤63)=false from decide_eq_false (by omega)];clear hs;generalize za0 l=s at*;go_in;go_wp2;go_ret;exact⟨rfl,Fr.refl _ _⟩
  ·have b2:decide ((63:Int)<((za0 l).size:Int))=false:=decide_eq_false (by rw[hs];omega)
   have b2':decide (63<(za0 l).size)=false:=decide_eq_false (by rw[hs];omega);rw[show decide (l.length≤63)=true from decide_eq_true (by omega)];clear hs;generalize za0 l=s at*;generalize l.all labB=q at*;cases q
   ·go_in
    go_wp2_with fail;go_call ha _ as e w1 ⟨rfl,f1⟩;go_wp2;go_ret;exact⟨rfl,f1⟩
   ·go_in
    go_wp2_with fail;go_call ha _ as e w1 ⟨rfl,f1⟩;go_wp2;go_ret;exact⟨rfl,f1⟩
def lowB(c:Nat):Nat:=if c<65∨90<c then c else c+32
theorem zu6{c:Nat}(h:c<256):lowB c<256:=by unfold lowB;split<;>omega
theorem zu7(w:World)(c:Nat)(hc:c<256):Calls prog 313 #[.int .u8 c] w (zE (.int .u8 (lowB c)) w):=by
 unfold lowB;by_cases h1:c<65
 ·have b1:=dT ((c:Int)<65)
  rw[if_pos (.inl h1)];go_in;go_wp2;go_ret;exact⟨rfl,rfl⟩
 ·have b1:=dF ((c:Int)<65)
  by_cases h2:90<c
  ·have b2:=dT ((90:Int)<(c:Int))
   rw[if_pos (.inr h2)];go_in;go_wp2;go_ret;exact⟨rfl,rfl⟩
  ·have b2:=dF ((90:Int)<(c:Int))
   have w1:IntKind.u8.wrap ((c:Int)+32)=((c+32:Nat):Int):=by
    show((c:Int)+32) %256=_;omega
   rw[if_neg (by omega)];go_in;go_wp2;go_ret;exact⟨rfl,rfl⟩
section
open Go.Shelf Go.RowKit
def zu8:Go.Shelf.Ren:=⟨fun|165=>304|167=>312|169=>306|240=>316|241=>317|276=>321|277=>322|n=>n,fun|0=>0|3=>3|4=>4|5=>5|9=>9|20=>20|37=>49|70=>320|72=>322|75=>324|80=>327|127=>332|164=>334|n=>n,fun|n=>n⟩
theorem zu9:Go.Proofs.Lays.n165 prog zu8:={
 mixed:=by kernel_rfl
 f165:=func304.trans (congrArg some (by kernel_rfl))
 f240:=func316.trans (congrArg some (by kernel_rfl))
 f241:=func317.trans (congrArg some (by kernel_rfl))
 f276:=func321.trans (congrArg some (by kernel_rfl))
 f277:=func322.trans (congrArg some (by kernel_rfl))
 t0:=underlying0
 a0:=Tryz.isAgg0
 z0:=Tryz.sizeOf0
 v0:=Tryz.zeroValue0
 t3:=underlying3
 a3:=Tryz.isAgg3
 z3:=Tryz.sizeOf3
 v3:=Tryz.zeroValue3
 t4:=underlying4
 a4:=Tryz.isAgg4
 z4:=Tryz.sizeOf4
 v4:=Tryz.zeroValue4
 t9:=underlying9
 a9:=Tryz.isAgg9
 z9:=Tryz.sizeOf9
 v9:=Tryz.zeroValue9
 t20:=underlying20
 a20:=Tryz.isAgg20
 z20:=Tryz.sizeOf20
 v20:=Tryz.zeroValue20
 t37:=underlying49
 a37:=Tryz.isAgg49
 z37:=Tryz.sizeOf49
 v37:=Tryz.zeroValue49
 t70:=underlying320
 a70:=Tryz.isAgg320
 z70:=Tryz.sizeOf320
 v70:=Tryz.zeroValue320
 t72:=underlying322
 a72:=Tryz.isAgg322
 z72:=Tryz.sizeOf322
 v72:=Tryz.zeroValue322
 t164:=underlying334
 a164:=Tryz.isAgg334
 z164:=Tryz.sizeOf334
 v164:=Tryz.zeroValue334}
theorem zva:Go.Proofs.Lays.n167 prog zu8:={
 mixed:=by kernel_rfl
 f167:=func312.trans (congrArg some (by kernel_rfl))
 f240:=func316.trans (congrArg some (by kernel_rfl))
 f276:=func321.trans (congrArg some (by kernel_rfl))
 t0:=underlying0
 a0:=Tryz.isAgg0
 z0:=Tryz.sizeOf0
 v0:=Tryz.zeroValue0
 t4:=underlying4
 a4:=Tryz.isAgg4
 z4:=Tryz.sizeOf4
 v4:=Tryz.zeroValue4
 t5:=underlying5
 a5:=Tryz.isAgg5
 z5:=Tryz.sizeOf5
 v5:=Tryz.zeroValue5
 t9:=underlying9
 a9:=Tryz.isAgg9
 z9:=Tryz.sizeOf9
 v9:=Tryz.zeroValue9
 t20:=underlying20
 a20:=Tryz.isAgg20
 z20:=Tryz.sizeOf20
 v20:=Tryz.zeroValue20
 t37:=underlying49
 a37:=Tryz.isAgg49
 z37:=Tryz.sizeOf49
 v37:=Tryz.zeroValue49
 t70:=underlying320
 a70:=Tryz.isAgg320
 z70:=Tryz.sizeOf320
 v70:=Tryz.zeroValue320
 t72:=underlying322
 a72:=Tryz.isAgg322
 z72:=Tryz.sizeOf322
 v72:=Tryz.zeroValue322
 t75:=underlying324
 a75:=Tryz.isAgg324
 z75:=Tryz.sizeOf324
 v75:=Tryz.zeroValue324
 t164:=underlying334
 a164:=Tryz.isAgg334
 z164:=Tryz.sizeOf334
 v164:=Tryz.zeroValue334}
theorem zvb:Go.Proofs.Lays.n169 prog zu8:={
 mixed:=by kernel_rfl
 f169:=func306.trans (congrArg some (by kernel_rfl))
 t0:=underlying0
 a0:=Tryz.isAgg0
 z0:=Tryz.sizeOf0
 v0:=Tryz.zeroValue0
 t3:=underlying3
 a3:=Tryz.isAgg3
 z3:=Tryz.sizeOf3
 v3:=Tryz.zeroValue3
 t9:=underlying9
 a9:=Tryz.isAgg9
 z9:=Tryz.sizeOf9
 v9:=Tryz.zeroValue9
 t37:=underlying49
 a37:=Tryz.isAgg49
 z37:=Tryz.sizeOf49
 v37:=Tryz.zeroValue49
 t70:=underlying320
 a70:=Tryz.isAgg320
 z70:=Tryz.sizeOf320
 v70:=Tryz.zeroValue320
 t72:=underlying322
 a72:=Tryz.isAgg322
 z72:=Tryz.sizeOf322
 v72:=Tryz.zeroValue322
 t127:=underlying332
 a127:=Tryz.isAgg332
 z127:=Tryz.sizeOf332
 v127:=Tryz.zeroValue332}
theorem zvc:Builder.Extra prog zu8:={
 sizeBuilder:=by kernel_rfl
 liesBuilder:=by kernel_rfl
 t5:=underlying5
 a5:=Tryz.isAgg5
 z5:=Tryz.sizeOf5
 v5:=Tryz.zeroValue5
 infoByte:=by kernel_rfl
 cellsByte:=by kernel_rfl
 sizeByte:=by kernel_rfl
 neB5:=by decide}
theorem zvd(l:List Nat)(hl:∀b∈l,b<256):Lib.byteCells (l.map UInt8.ofNat)=zbd l:=by
 unfold Lib.byteCells zbd;rw[List.map_map];refine List.map_congr_left fun b hb=> ?_;show Value.int .u8 (((UInt8.ofNat b).toNat:Nat):Int)=_;rw[show(UInt8.ofNat b).toNat=b from by simpa using Nat.mod_eq_of_lt (hl b hb)]
theorem zve(w:World)(l:List Nat)(hl:∀b∈l,b<256)(hlen:l.length≤1048576):Calls prog 293 #[.string (za0 l)] w (zR (.string (za0 (l.map lowB))) fun w'=>Fr [] w w'):=by
 have HS:=hid (zu1 l);have HSm:=hid (fun W (c:Nat) (hc:c<256)=>zu7 W c hc);have HAt:=hid (zu2 l hl)
 have hG:=(show Calls prog 304 #[some w.heap.size,l.length] (w.alloc (.cells #[.pointer none,.slice none 0 0] 322)) (zR (.tuple #[]) fun w'=>(Lib.BuilderAt 322 5 w.heap.size w.heap.size (.pointer (some ⟨w.heap.size,0,none⟩)) [] w'∧Below w.heap.size (w.alloc (.cells #[.pointer none,.slice none 0 0] 322)) w'))from
  Any.Builder_Grow_fresh zu9 zvc w.heap.size w.heap.size l.length (w.alloc (.cells #[.pointer none,.slice none 0 0] 322)) (Nat.le_refl _) (Blk.new w _ _) (by simp) (by omega))
 have HW:=hid (fun W (c:Int) bs (h:Lib.BuilderAt 322 5 w.heap.size w.heap.size (.pointer (some ⟨w.heap.size,0,none⟩)) bs W) (hbs:bs.length≤2000000)=>(show Calls prog 312 #[some w.heap.size,.int .u8 c] W (zR .nilIface fun w'=>(Lib.BuilderAt 322 5 w.heap.size w.heap.size (.pointer (some ⟨w.heap.size,0,none⟩)) (bs++ [.int .u8 c]) w'∧Below w.heap.size W w'))from
  Any.Builder_WriteByte zva zvc w.heap.size w.heap.size bs c W (.inr h) (by omega) (Nat.le_of_lt h.lt)))
 have HStr:=hid (fun W (m:List UInt8) (h:Lib.BuilderAt 322 5 w.heap.size w.heap.size (.pointer (some ⟨w.heap.size,0,none⟩)) (Lib.byteCells m) W)=>(show Calls prog 306 #[some w.heap.size] W (zR (.string ⟨m.toArray⟩) fun w'=>Below w.heap.size W w')from
  Any.Builder_String_any zvb zvc w.heap.size w.heap.size m W (.inr h) (Nat.le_of_lt h.lt)))
 have HL:=hid hlen;have B0:=show Below w.heap.size w (w.alloc (.cells #[.pointer none,.slice none 0 0] 322))from(Below.refl _ w).alloc (Nat.le_refl _) _;generalize hs:za0 l=s at HS HAt⊢;clear hs hlen
 have HTk:=hid (fun k c (h:l[k]?=some c)=>(show zbd ((l.take (k+1)).map lowB)=zbd ((l.take k).map lowB)++ [.int .u8 (lowB c:Nat)]from by
  rw[List.take_add_one,h,Option.toList_some,List.map_append];unfold zbd;rw[List.map_append];rfl))
 have HTl:=hid (fun k=>(show(zbd ((l.take k).map lowB)).length≤l.length from by unfold zbd;simp;omega))
 have HFin:=hid (show zbd ((l.take l.length).map lowB)=Lib.byteCells ((l.map lowB).map UInt8.ofNat)from by
  rw[List.take_length,zvd _ (fun b hb=>by obtain⟨x,hx,rfl⟩:=List.mem_map.1 hb;exact zu6 (hl x hx))])
 have HLt:=hid (show∀k c,l[k]?=some c→c<256 from fun k c h=>hl c (List.mem_of_getElem? h));clear hl;generalize hn:l.length=n at*;have HNn:=hid hn;clear hn;have hsz:(s.size:Int)=n:=by rw[HS.out]
 have hsz':s.size=n:=HS.out;go_in;go_wp2_with fail;go_call hG as e w1 ⟨rfl,hb1,f1⟩;have HB1:=hid hb1;have F1:=B0.trans f1;clear hG hb1 f1;go_wp2;go_loopw [10] (fun v W=>∃k:Nat,k≤n∧v= .int .i64 k∧Lib.BuilderAt 322 5 w.heap.size w.heap.size (.pointer (some ⟨w.heap.size,0,none⟩)) (zbd ((l.take k).map lowB)) W∧Below w.heap.size w W) (fun v _=>n-(intOf v).toNat);case atStart=>exact⟨0,Nat.zero_le _,rfl,HB1.out,F1⟩
 case round=>
  obtain⟨k,hk,rfl,hbk,hfk⟩:=hrel;have HBk:=hid hbk;clear hbk;by_cases hlt:k<n
  ·obtain⟨c,hc⟩:∃c,l[k]?=some c:=⟨_,List.getElem?_eq_getElem (by rw[HNn.out];exact hlt)⟩
   have hc2:=HLt.out k c hc;have wk:IntKind.i64.wrap ((k:Int)+1)=(k:Int)+1:=i64_in _ (by have:=HL.out;omega);have hks:k<s.size:=by omega
   have hat:=HAt.out k hks;rw[hc]at hat;simp only[Option.getD_some]at hat;have HC:=hid hc;clear hc;go_wp2_with fail;go_call HSm.out _ c hc2 as e w2 ⟨rfl,rfl⟩;go_wp2_with fail;go_call HW.out _ (lowB c:Nat) _ HBk.out (by have:=HTl.out k;have:=HL.out;omega) as e w3 ⟨rfl,hb3,f3⟩;have HB3:=hid hb3;have F3:=hfk.trans f3;clear hb3 f3;go_wp2;go_roundw;case rel=>exact⟨k+1,by omega,by go_num,by rw[HTk.out k c HC.out];exact HB3.out,F3⟩
   case measure=>simp[intOf];omega
  ·obtain rfl:k=n:=by omega
   have hst:=HStr.out wr ((l.map lowB).map UInt8.ofNat) (by rw[←HFin.out];exact HBk.out);go_wp2_with fail;go_call hst as e w2 ⟨rfl,f2⟩;go_wp2;go_ret;rw[show za0 (l.map lowB)=⟨(List.map (UInt8.ofNat∘lowB) l).toArray⟩from by unfold za0;rw[List.map_map]];exact⟨rfl,Fr.of_below (hfk.trans f2)⟩
end
theorem zvf(z:Int):((z %4294967296).toNat:Int)=z %4294967296:=Int.toNat_of_nonneg (Int.emod_nonneg _ (by decide))
theorem zvg(z:Int):(z %4294967296).toNat<4294967296:=by
 have:=Int.emod_lt_of_pos z (show(0:Int)<4294967296 by decide);have:=Int.emod_nonneg z (show(4294967296:Int)≠0 by decide);omega
def zvh(z:Int):Nat:=(z*16777619 %4294967296).toNat
theorem zvi(z:Int):((zvh z:Nat):Int)=z*16777619 %4294967296:=zvf _
theorem zvj(z:Int):zvh z<4294967296:=zvg _
def zvk(h b:Nat):Nat:=zvh (bits BinOp.xor IntKind.u32 (h:Int) ((b:Int) %4294967296))
theorem zvl(h b:Nat):zvk h b<4294967296:=zvj _
theorem zvm(w:World)(h b z:Int)(hz:bits BinOp.xor IntKind.u32 h (b %4294967296)=z)(u:Int)(hu:z*16777619 %4294967296=u):Calls prog 319 #[.int .u32 h,.int .u8 b] w (zE (.int .u32 u) w):=by
 go_in;go_wp2;go_ret;rw[hu];exact⟨rfl,rfl⟩
theorem zvn(w:World)(h b:Nat):Calls prog 319 #[.int .u32 h,.int .u8 b] w (zE (.int .u32 (zvk h b)) w):=
 zvm w h b _ rfl _ (zvi _).symm
def mixS(h:Nat)(l:List Nat):Nat:=l.foldl zvk h
def mixL(h:Nat)(l:List Nat):Nat:=zvk (mixS h l) 46
theorem zvo(h:Nat)(l:List Nat):mixL h l<4294967296:=zvl _ _
theorem zvp(w:World)(h:Nat)(l:List Nat)(hl:∀b∈l,b<256)(hlen:l.length≤1048576):Calls prog 314 #[.int .u32 h,.string (za0 l)] w (zE (.int .u32 (mixS h l)) w):=by
 have HS:=hid (zu1 l);have HAt:=hid (zu2 l hl);obtain⟨M,hM⟩:∃M:Nat→Nat,∀k,mixS h (l.take k)=M k:=⟨_,fun _=>rfl⟩;obtain⟨S,hS⟩:∃S:Nat→Nat→Nat,∀a b,zvk a b=S a b:=⟨_,fun _ _=>rfl⟩
 have HTk:=hid (fun k c (hc:l[k]?=some c)=>(show M (k+1)=S (M k) c from by
  rw[←hM,←hM,←hS];unfold mixS;rw[List.take_add_one,hc,Option.toList_some,List.foldl_append,List.foldl_cons,List.foldl_nil]))
 have HFin:=hid (show M l.length=mixS h l from by rw[←hM,List.take_length]);have HM0:=hid (show M 0=h from by rw[←hM,List.take_zero];exact List.foldl_nil);have HSt:=hid (show∀W a b,Calls prog 319 #[.int .u32 (a:Nat),.int .u8 (b:Nat)] W (zE (.int .u32 (S a b)) W)from fun W a b=>by rw[←hS];exact zvn W a b);generalize hR:mixS h l=R at HFin⊢;clear hR hM hS;generalize hs:za0 l=s at HS HAt⊢;clear hs hl;generalize hn:l.length=n at*;have HNn:=hid hn;clear hn;have hsz:(s.size:Int)=n:=by rw[HS.out]
 have hsz':s.size=n:=HS.out;go_in;go_wp2;go_loopw [0,8] (fun u v W=>∃k:Nat,k≤n∧v= .int .i64 k∧u= .int .u32 (M k)∧W=w) (fun _ v _=>n-(intOf v).toNat);case atStart=>exact⟨0,Nat.zero_le _,rfl,by rw[HM0.out],rfl⟩
 case round=>
  obtain⟨k,hk,rfl,rfl,rfl⟩:=hrel;by_cases hlt:k<n
  ·obtain⟨c,hc⟩:∃c,l[k]?=some c:=⟨_,List.getElem?_eq_getElem (by rw[HNn.out];exact hlt)⟩
   have wk:=i6 ((k:Int)+1);have hks:k<s.size:=by omega
   have hat:=HAt.out k hks;rw[hc]at hat;simp only[Option.getD_some]at hat;have HC:=hid (HTk.out k c hc);clear hc;go_wp2_with fail;go_call HSt.out _ (M k) c as e w2 ⟨rfl,rfl⟩;go_wp2;go_roundw;case rel=>exact⟨k+1,by omega,by go_num,by rw[HC.out],trivial⟩
   case measure=>simp[intOf];omega
  ·obtain rfl:k=n:=by omega
   go_wp2;go_ret;rw[HFin.out];exact⟨rfl,rfl⟩
theorem zvq(w:World)(h:Nat)(ad:Option Addr)(cp:Nat)(l:List Nat)(hb:Byt w ad l)(hlen:l.length≤1048576):Calls prog 308 #[.int .u32 h,.slice ad l.length cp] w (zE (.int .u32 (mixS h l)) w):=by
 have HAt:=hid hb.at_;obtain⟨M,hM⟩:∃M:Nat→Nat,∀k,mixS h (l.take k)=M k:=⟨_,fun _=>rfl⟩;obtain⟨S,hS⟩:∃S:Nat→Nat→Nat,∀a b,zvk a b=S a b:=⟨_,fun _ _=>rfl⟩
 have HTk:=hid (fun k c (hc:l[k]?=some c)=>(show M (k+1)=S (M k) c from by
  rw[←hM,←hM,←hS];unfold mixS;rw[List.take_add_one,hc,Option.toList_some,List.foldl_append,List.foldl_cons,List.foldl_nil]))
 have HFin:=hid (show M l.length=mixS h l from by rw[←hM,List.take_length]);have HM0:=hid (show M 0=h from by rw[←hM,List.take_zero];exact List.foldl_nil);have HSt:=hid (show∀W a b,Calls prog 319 #[.int .u32 (a:Nat),.int .u8 (b:Nat)] W (zE (.int .u32 (S a b)) W)from fun W a b=>by rw[←hS];exact zvn W a b);generalize hR:mixS h l=R at HFin⊢;clear hR hM hS hb;generalize hn:l.length=n at*;have HNn:=hid hn;clear hn;go_in;go_wp2;go_loopw [0,8] (fun u v W=>∃k:Nat,k≤n∧v= .int .i64 k∧u= .int .u32 (M k)∧W=w) (fun _ v _=>n-(intOf v).toNat);case atStart=>exact⟨0,Nat.zero_le _,rfl,by rw[HM0.out],rfl⟩
 case round=>
  obtain⟨k,hk,rfl,rfl,rfl⟩:=hrel;by_cases hlt:k<n
  ·obtain⟨c,hc⟩:∃c,l[k]?=some c:=⟨_,List.getElem?_eq_getElem (by rw[HNn.out];exact hlt)⟩
   obtain⟨g,o,rfl,hat,-⟩:=HAt.out k hlt;have b0':decide (k<n)=true:=decide_eq_true hlt;have wk:=i6 ((k:Int)+1);have i0:(0:Int)≤k:=by omega
   have i1:(k:Int)<n:=by omega
   rw[hc]at hat;simp only[Option.getD_some]at hat;have HC:=hid (HTk.out k c hc);clear hc;go_wp2_with fail;go_call HSt.out _ (M k) c as e w2 ⟨rfl,rfl⟩;go_wp2;go_roundw;case rel=>exact⟨k+1,by omega,by go_num,by rw[HC.out],trivial⟩
   case measure=>simp[intOf];omega
  ·obtain rfl:k=n:=by omega
   go_wp2;go_ret;rw[HFin.out];exact⟨rfl,rfl⟩
theorem zvr(w:World)(h c:Nat)(hc:c<256)(g:Nat)(hb:Blk w g 5 #[.int .u8 c]):Calls prog 254 #[.int .u32 h,.slice (some ⟨g,0,none⟩) 1 1] w (zE (.int .u32 (zvk h c)) w):=by
 have hby:Byt w (some ⟨g,0,none⟩) [c] :=⟨fun i hi=>by
  obtain rfl:i=0:=by simp at hi;omega
  exact⟨g,0,rfl,hb.cell 0,hb.lt⟩,fun b hm=>by rw[List.mem_singleton.1 hm];exact hc,by simp⟩
 have ht:=(show Calls prog 308 #[.int .u32 h,.slice (some ⟨g,0,none⟩) 1 1] w (zE (.int .u32 (zvk h c)) w)from by
  have:=zvq w h _ 1 [c] hby (by simp);unfold mixS at this;rw[List.foldl_cons,List.foldl_nil]at this;exact this)
 generalize zvk h c=r at*;clear hby hb;go_in;go_wp2_with fail;go_call ht as e w2 ⟨rfl,rfl⟩;go_wp2;go_ret;exact⟨rfl,rfl⟩
theorem xlab(w:World)(h:Nat)(l:List Nat)(hl:∀b∈l,b<256)(hlen:l.length≤1048576):Calls prog 294 #[.int .u32 h,.string (za0 l)] w (zR (.int .u32 (mixL h (l.map lowB))) fun w'=>Fr [] w w'):=by
 have hlo:=fun W=>zve W l hl hlen;have hth:=hid (fun W=>zvp W h (l.map lowB) (fun b hb=>by obtain⟨x,hx,rfl⟩:=List.mem_map.1 hb;exact zu6 (hl x hx)) (by rw[List.length_map];exact hlen));have hst:=hid (fun W g (hB:Blk W g 5 #[.int .u8 46])=>(show Calls prog 254 #[.int .u32 (mixS h (l.map lowB)),.slice (some ⟨g,0,none⟩) 1 1] W (zE (.int .u32 (mixL h (l.map lowB))) W)from zvr W (mixS h (l.map lowB)) 46 (by decide) g hB));generalize mixL h (l.map lowB)=R at*;generalize mixS h (l.map lowB)=M at*;generalize za0 (l.map lowB)=s2 at*;generalize za0 l=s at*;clear hl hlen;go_in;go_wp2_with fail;go_call hlo _ as e w1 ⟨rfl,f1⟩;go_wp2_with fail;go_call hth.out _ as e w2 ⟨rfl,rfl⟩;have hs:=hst.out _ _ (Blk.new w2 5 #[.int .u8 46]);go_wp2_with fail;go_call hs as e w3 ⟨rfl,rfl⟩;go_wp2;go_ret;exact⟨rfl,f1.alloc _⟩
theorem zvs(w:World):Calls prog 255 #[.slice none 0 0] w (zE (.int .u32 2166136261) w):=by
 go_in;go_wp2;go_loopw [3,7] (fun u v W=>u= .int .u32 2166136261∧v= .int .i64 0∧W=w) (fun _ _ _=>0);case atStart=>exact⟨rfl,rfl,rfl⟩
 case round=>
  obtain⟨rfl,rfl,rfl⟩:=hrel;go_wp2;go_ret;exact⟨rfl,rfl⟩
structure CtI(u:TM)(S:SS)(x:Nat)(X:HB)(b:List Nat):Prop where
 n: ∃c:Nat,X.cls=c∧1≤c∧c≤9∧Lv 7 S x (csz c)∧sz X.tag.toNat+b.length≤csz c
 lt: ∀y∈b,y<256
 on:ByOn u (x+sz X.tag.toNat) b.length (fun j=>b[j]?.getD 0)
 l2:X.tag=2→X.label=(b.length:Int)∧1≤b.length∧b.length≤63
 l1:X.tag=1→X.size=(b.length:Int)
structure WB(w0:World)(q:MH)(S:SS)(L:Nat→Prop)(u:TM)(E:Nat→HB)(B:Nat→List Nat)(W:World):Prop where
 h:IsH W q u
 sl:SlI u S
 ix:IxI u L E
 rh:RZ 224 u.sl (hmE u E)
 ct: ∀x,L x→CtI u S x (E x) (B x)
 a:u.a=7
 s:u.s=224
 ft:u.ft=0
 f:Fr [] w0 W
 hq: ∀k∈q.blocks,w0.heap.size≤k
 fl:S.full 7
section
variable{w0 W W':World}{q:MH}{S S':SS}{x y n c:Nat}{u v:TM}{L L':Nat→Prop}{E:Nat→HB}{B:Nat→List Nat}{X:HB}{b:List Nat}
theorem WB.fr0(g:WB w0 q S L u E B W)(hf:Fr [] W W'):WB w0 q S L u E B W':=⟨g.h.fr0 hf,g.sl,g.ix,g.rh,g.ct,g.a,g.s,g.ft,g.f.trans hf,g.hq,g.fl⟩
theorem WB.same(g:WB w0 q S L u E B W)(h:IsH W' q u)(hf:Fr q.blocks W W'):WB w0 q S L u E B W':=⟨h,g.sl,g.ix,g.rh,g.ct,g.a,g.s,g.ft,g.f.step hf (fun k hk=> .inr (g.hq k hk)),g.hq,g.fl⟩
theorem WB.lt(g:WB w0 q S L u E B W):∀k∈q.blocks,k<W.heap.size:=g.h.m.lt
theorem WB.lv(g:WB w0 q S L u E B W)(hx:L x):LvP S x:=by
 obtain⟨c,_,_,_,h,_⟩:=(g.ct x hx).n;exact⟨_,h⟩
theorem WB.lv7(g:WB w0 q S L u E B W)(h:Lv 7 S x n):Lv u.a S x n:=by rw[g.a];exact h
theorem WB.at_(g:WB w0 q S L u E B W)(h:Lv 7 S x n):zdv u.a u.s≤x∧x %16=0∧n %16=0∧32≤n∧n≤512∧x+n≤zdw u.a u.s∧KdOn u x n 5:=zp4 g.sl g.h.m.ok (g.lv7 h)
theorem WB.base(g:WB w0 q S L u E B W):240≤zdv u.a u.s:=by
 have:=zge g.h.m.ok.cfg;omega
theorem CtI.same(h:CtI u S x X b){X':HB}(ht:X'.tag=X.tag)(hc:X'.cls=X.cls)(hl:X'.label=X.label)(hs:X'.size=X.size):CtI u S x X' b:=
 ⟨by rw[ht,hc];exact h.n,h.lt,by rw[ht];exact h.on,by rw[ht,hl];exact h.l2,by rw[ht,hs];exact h.l1⟩
theorem BlkE.tgn(h:BlkE u x X):X.tag.toNat=1∨X.tag.toNat=2:=by rcases h.tg with e|e<;>rw[e] <;>simp
theorem WB.keep(g:WB w0 q S L u E B W)(h:IsH W' q v)(hf:Fr q.blocks W W')(hs:SlI v S')(hfl:S'.full 7)(ea:v.a=u.a)(es:v.s=u.s)(esl:v.sl=u.sl)(eft:v.ft=u.ft)
  (hL:∀y,L' y→L y∧∀n,Lv 7 S y n→Lv 7 S' y n∧∀k,k<n→zfz v (y+k)=zfz u (y+k)) (hsl:∀i,i<224→u.sl i=0∨L' (u.sl i)):WB w0 q S' L' v E B W':=by
 have ehm:hmE v E=hmE u E:=by unfold hmE;rw[es]
 refine⟨h,hs,⟨fun y hy=> ?_,fun i hi=> ?_,by rw[es];exact g.ix.s0,by rw[es];exact g.ix.s1⟩,by rw[esl,ehm];exact g.rh,fun y hy=> ?_,ea.trans g.a,es.trans g.s,eft.trans g.ft,g.f.step hf (fun k hk=> .inr (g.hq k hk)),g.hq,hfl⟩
 ·obtain⟨h1,h2⟩:=hL y hy
  obtain⟨c,_,_,_,hlv,hfit⟩:=(g.ct y h1).n;obtain⟨k1,k2⟩:=h2 _ hlv;have hb:=g.ix.e y h1;obtain⟨_,b2,b3,b4,b5,_,b7⟩:=zp4 hs h.m.ok (show Lv v.a S' y (csz c)by rw[ea,g.a];exact k1);have hz:=zlt (E y).tag.toNat hb.h.tg;exact hb.keep ea es (fun gg g1 g2=>b7 gg g1 (by omega)) (by omega) (fun k hk=>k2 k (by omega))
 ·rw[esl]
  exact hsl i (by rw[←g.s,←es];exact hi)
 ·obtain⟨h1,h2⟩:=hL y hy
  have hc:=g.ct y h1;obtain⟨c,e1,c1,c9,hlv,hfit⟩:=hc.n;obtain⟨k1,k2⟩:=h2 _ hlv;refine⟨⟨c,e1,c1,c9,k1,hfit⟩,hc.lt,fun j hj=> ?_,hc.l2,hc.l1⟩;rw[Nat.add_assoc,k2 _ (by omega),←Nat.add_assoc];exact hc.on j hj
theorem WB.apart(g:WB w0 q S L u E B W){m:Nat}(h1:Lv 7 S x n)(h2:Lv 7 S y m)(hne:x≠y):x+n≤y∨y+m≤x:=zp5 g.sl g.h.m.ok (g.lv7 h1) (g.lv7 h2) hne
theorem WB.one(g:WB w0 q S L u E B W)(h:IsH W' q v)(hf:Fr q.blocks W W')(hx:Lv 7 S x n)(hn:¬L x)(ea:v.a=u.a)(es:v.s=u.s)(esl:v.sl=u.sl)(eft:v.ft=u.ft)(ert:v.rt=u.rt)(eh:v.hd=u.hd)(ek:v.kd=u.kd)(o:Out u v x n):WB w0 q S L v E B W':=by
 refine g.keep h hf (g.sl.inner g.h.m.ok (g.lv7 hx) ea es (fun _ _=>by rw[ert]) eh ek o) g.fl ea es esl eft (fun y hy=>⟨hy,fun m hm=>⟨hm,fun k hk=> ?_⟩⟩) (fun i hi=>g.ix.sl i (by rw[g.s];exact hi));have hne:x≠y:=fun e=>hn (e▸hy);have ap:=g.apart hx hm hne;have b1:=(g.at_ hm).1;exact o.by_ (y+k) (by omega) (by omega)
theorem WB.add(g:WB w0 q S L u E B W)(hn:¬L x)(hX:BlkE u x X)(hc:CtI u S x X b):WB w0 q S (fun y=>y=x∨L y) u (up E x X) (up B x b) W:=by
 have hE:∀y,L y→up E x X y=E y:=fun y hy=>zf2 _ _ (fun e=>hn (e▸hy));have hB:∀y,L y→up B x b y=B y:=fun y hy=>zf2 _ _ (fun e=>hn (e▸hy));refine⟨g.h,g.sl,⟨fun y hy=> ?_,fun i hi=>(g.ix.sl i hi).imp id .inr,g.ix.s0,g.ix.s1⟩,g.rh.congr (fun y=>by unfold hmE;rw[g.s];exact Nat.mod_lt _ (by decide)) (fun s hs h0=> ?_),fun y hy=> ?_,g.a,g.s,g.ft,g.f,g.hq,g.fl⟩
 ·rcases hy with rfl|hy
  ·rw[zf1];exact hX
  ·rw[hE y hy];exact g.ix.e y hy
 ·unfold hmE
  rw[hE _ ((g.ix.sl _ (by rw[g.s];exact hs)).resolve_left h0)]
 ·rcases hy with rfl|hy
  ·rw[zf1,zf1];exact hc
  ·rw[hE y hy,hB y hy];exact g.ct y hy
theorem WB.mod(g:WB w0 q S L u E B W)(h:IsH W' q v)(hf:Fr q.blocks W W')(hx:L x)(ea:v.a=u.a)(es:v.s=u.s)(esl:v.sl=u.sl)(eft:v.ft=u.ft)(ert:v.rt=u.rt)(eh:v.hd=u.hd)(ek:v.kd=u.kd)
  (o:Out u v x (sz (E x).tag.toNat)) (hX:BlkE v x X) (ht:X.tag=(E x).tag) (hc:X.cls=(E x).cls) (hl:X.label=(E x).label) (hsz:X.size=(E x).size) (hh:X.hash=(E x).hash):WB w0 q S L v (up E x X) B W':=by
 obtain⟨c,e1,_,_,hlv,hfit⟩:=(g.ct x hx).n;have hs:=g.sl.inner g.h.m.ok (g.lv7 hlv) ea es (fun _ _=>by rw[ert]) eh ek (o.wide (y:=x) (m:=csz c) (Nat.le_refl _) (by omega))
 have hh':∀y,(up E x X y).hash=(E y).hash:=fun y=>by
  by_cases e:y=x
  ·rw[e,zf1];exact hh
  ·rw[zf2 _ _ e]
 have ehm:hmE v (up E x X)=hmE u E:=by funext y;unfold hmE;rw[es,hh' y]
 have hby:∀y,L y→y≠x→∀n,Lv 7 S y n→∀k,k<n→zfz v (y+k)=zfz u (y+k):=fun y hy hne n hn k hk=>by
  have ap:=g.apart hlv hn (fun e=>hne e.symm);have b1:=(g.at_ hn).1;exact o.by_ (y+k) (by omega) (by omega)
 refine⟨h,hs,⟨fun y hy=> ?_,fun i hi=>by rw[esl];exact g.ix.sl i (by rw[←es];exact hi),by rw[es];exact g.ix.s0,by rw[es];exact g.ix.s1⟩,by rw[esl,ehm];exact g.rh,fun y hy=> ?_,ea.trans g.a,es.trans g.s,eft.trans g.ft,g.f.step hf (fun k hk=> .inr (g.hq k hk)),g.hq,g.fl⟩
 ·by_cases e:y=x
  ·rw[e,zf1];exact hX
  ·rw[zf2 _ _ e]
   obtain⟨c',_,_,_,hlv',hfit'⟩:=(g.ct y hy).n;have hb:=g.ix.e y hy;obtain⟨_,b2,b3,b4,b5,_,b7⟩:=zp4 hs h.m.ok (show Lv v.a S y (csz c')by rw[ea,g.a];exact hlv');have hz:=zlt (E y).tag.toNat hb.h.tg;exact hb.keep ea es (fun gg g1 g2=>b7 gg g1 (by omega)) (by omega) (fun k hk=>hby y hy e _ hlv' k (by omega))
 ·by_cases e:y=x
  ·subst e
   rw[zf1];have hcy:=(g.ct y hx).same ht hc hl hsz;refine⟨hcy.n,hcy.lt,fun j hj=> ?_,hcy.l2,hcy.l1⟩;have b1:=(g.at_ hlv).1;rw[o.by_ _ (by omega) (.inr (by rw[ht];omega))];exact hcy.on j hj
  ·rw[zf2 _ _ e]
   have hcy:=g.ct y hy;obtain⟨c',_,_,_,hlv',hfit'⟩:=hcy.n;refine⟨hcy.n,hcy.lt,fun j hj=> ?_,hcy.l2,hcy.l1⟩;rw[Nat.add_assoc,hby y hy e _ hlv' _ (by omega),←Nat.add_assoc];exact hcy.on j hj
theorem WB.slots(g:WB w0 q S L u E B W){T:Nat→Nat}(h:IsH W' q (u.wsl T))(hf:Fr q.blocks W W')(hc:∀i,i<224→T i=0∨L (T i))(hr:RZ 224 T (hmE u E)):WB w0 q S L (u.wsl T) E B W':=by
 refine⟨h,g.sl.wsl g.h.m.ok h.m.ok,g.ix.wsl g.h.m.ok h.m.ok (by rw[g.s];exact hc),hr,fun y hy=> ?_,g.a,g.s,g.ft,g.f.step hf (fun k hk=> .inr (g.hq k hk)),g.hq,g.fl⟩;have hcy:=g.ct y hy;obtain⟨c,_,_,_,hlv,_⟩:=hcy.n;have b1:=(g.at_ hlv).1;exact⟨hcy.n,hcy.lt,fun j hj=>by rw[(zur g.h.m.ok h.m.ok 0 0).by_ _ (by omega) (.inr (by omega))];exact hcy.on j hj,hcy.l2,hcy.l1⟩
theorem WB.root(g:WB w0 q S L u E B W)(f z:Nat)(hf12:12<f)(h:IsH W' q (u.setRt f z))(hf:Fr q.blocks W W')(hz:z<256^fldW f):WB w0 q S L (u.setRt f z) E B W':=by
 have hs:SlI (u.setRt f z) S:=by
  have ho:=zmj g.h.m.ok f z hz;refine⟨g.sl.ls.same' rfl (fun c hc=> ?_) (fun _ _ _=>rfl),fun j hj=>(g.sl.each j hj).other g.h.m.ok hj rfl rfl (fun _ _=>rfl) (ho (sla u j+1024) 0) (.inl (Nat.le_refl _))⟩;show(if 3+c=f then z else u.rt (3+c))=u.rt (3+c);rw[if_neg (by omega)]
 refine g.keep h hf hs g.fl rfl rfl rfl rfl (fun y hy=>⟨hy,fun n hn=>⟨hn,fun k _=> ?_⟩⟩) (fun i hi=>g.ix.sl i (by rw[g.s];exact hi));have b1:=(g.at_ hn).1;exact(zmj g.h.m.ok f z hz 0 0).by_ _ (by omega) (.inr (by omega))
end
section
variable{w:World}{q:MH}{t:TM}
theorem zvt(h:IsH w q t)(at_:Int)(X:HB)(c:Nat)(hg:∀W,IsH W q t→Calls prog 138 #[.pointer (some ⟨q.m,0,none⟩),.int .i64 at_] W (zR (.tuple #[X.val,.int .i64 c]) fun w'=>IsH w' q t∧Fr q.blocks W w')):Calls prog 95 #[.pointer (some ⟨q.m,0,none⟩),.int .i64 at_] w (zR (.tuple #[X.val,.bool (c==0&&X.tag==2)]) fun w'=>IsH w' q t∧Fr q.blocks w w'):=by
 have HG:=hid (fun W (hW:IsH W q t)=>(show Calls prog 138 #[.pointer (some ⟨q.m,0,none⟩),.int .i64 at_] W (zR (.tuple #[.agg #[.int .i64 X.tag,.int .i64 X.cls,.bool X.used,.int .i64 X.label,.int .u32 X.name,.int .u32 X.next,.int .u32 X.prev,.int .u32 X.refs,.int .u64 X.expiry,.int .u16 X.typ,.int .i64 X.size,.int .u32 X.hash],.int .i64 c]) fun w'=>IsH w' q t∧Fr q.blocks W w')from hg W hW));have hlt:=h.m.lt;have HP:=hid (show∀b,(c==0&&X.tag==2)=b→∀w',IsH w' q t→Fr q.blocks w w'→(Ending.returned (.tuple #[.agg #[.int .i64 X.tag,.int .i64 X.cls,.bool X.used,.int .i64 X.label,.int .u32 X.name,.int .u32 X.next,.int .u32 X.prev,.int .u32 X.refs,.int .u64 X.expiry,.int .u16 X.typ,.int .i64 X.size,.int .u32 X.hash],.bool b])= .returned (.tuple #[X.val,.bool (c==0&&X.tag==2)])∧IsH w' q t∧Fr q.blocks w w')from fun b e w' h1 h2=>⟨by rw[e];rfl,h1,h2⟩);have h0:=HP.out _ rfl;clear hg h0;have hA:=Blk.new w 122 zky;have HA0:=h.alloc (.cells zky 122);have FA0:=(Fr.refl q.blocks w).alloc (.cells zky 122);have hzz:zky= #[.int .i64 0,.int .i64 0,.bool false,.int .i64 0,.int .u32 0,.int .u32 0,.int .u32 0,.int .u32 0,.int .u64 0,.int .u16 0,.int .i64 0,.int .u32 0] :=rfl;have HZ:=hid hzz
 have HX:=hid (show∀b,(c==0&&X.tag==2)=b→(((c:Int)==0)=true∧(X.tag==2)=b)∨(((c:Int)==0)=false∧b=false)from fun b e=>by
  by_cases hc:c=0
  ·subst hc;exact .inl ⟨by simp,by simpa using e⟩
  ·have:(c==0)=false:=by rw[beq_eq_false_iff_ne];exact hc
   rw[this,Bool.false_and]at e;exact .inr ⟨by rw[beq_eq_false_iff_ne];omega,e.symm⟩)
 have HTs:=hid h.m.tab.size;have HTt:=hid h.tabs.size;have HNA:=hid (show w.heap.size∉q.blocks from fun hm=>by have:=hlt _ hm;omega);obtain⟨R,hR⟩:∃R:Ending→World→Prop,(zR (.tuple #[X.val,.bool (c==0&&X.tag==2)]) fun w'=>IsH w' q t∧Fr q.blocks w w')=R:=⟨_,rfl⟩;have HP2:=hid (show∀b,(c==0&&X.tag==2)=b→∀w',IsH w' q t→Fr q.blocks w w'→R (.returned (.tuple #[.agg #[.int .i64 X.tag,.int .i64 X.cls,.bool X.used,.int .i64 X.label,.int .u32 X.name,.int .u32 X.next,.int .u32 X.prev,.int .u32 X.refs,.int .u64 X.expiry,.int .u16 X.typ,.int .i64 X.size,.int .u32 X.hash],.bool b])) w' from fun b e w' h1 h2=>by rw[←hR];exact HP.out b e w' h1 h2);rw[hR];obtain⟨b,hb⟩:∃b,(c==0&&X.tag==2)=b:=⟨_,rfl⟩;have HP3:=hid (HP2.out b hb);have hx:=HX.out b hb;clear HP HP2 hR hzz HX hb hlt;obtain⟨tag,cls,used,label,nm,next,prev,refs,expiry,ty,size,hash⟩:=X;simp only at HG HP3 hx;go_in;go_wp2_with fail;have hg0:=HG.out _ HA0;rw[HZ.out]at hg0;with_reducible refine hg0.mono ?_
 rintro e w1 ⟨rfl,k1,f1⟩;have F1:=FA0.trans (by rw[HZ.out];exact f1);have A1:=hA.fr (by rw[HZ.out];exact f1) HNA.out;clear f1 HG hg0;go_wp2_with fail;have VB:=Blk.new w1 122 #[.int .i64 tag,.int .i64 cls,.bool used,.int .i64 label,.int .u32 nm,.int .u32 next,.int .u32 prev,.int .u32 refs,.int .u64 expiry,.int .u16 ty,.int .i64 size,.int .u32 hash];have AV:=A1.alloc (.cells #[.int .i64 tag,.int .i64 cls,.bool used,.int .i64 label,.int .u32 nm,.int .u32 next,.int .u32 prev,.int .u32 refs,.int .u64 expiry,.int .u16 ty,.int .i64 size,.int .u32 hash] 122);have KV:=k1.alloc (.cells #[.int .i64 tag,.int .i64 cls,.bool used,.int .i64 label,.int .u32 nm,.int .u32 next,.int .u32 prev,.int .u32 refs,.int .u64 expiry,.int .u16 ty,.int .i64 size,.int .u32 hash] 122);have FV:=F1.alloc (.cells #[.int .i64 tag,.int .i64 cls,.bool used,.int .i64 label,.int .u32 nm,.int .u32 next,.int .u32 prev,.int .u32 refs,.int .u64 expiry,.int .u16 ty,.int .i64 size,.int .u32 hash] 122);have hne:w.heap.size<w1.heap.size:=A1.lt;have HS:=hid (fun V (hV:Blk V w1.heap.size 122 #[.int .i64 tag,.int .i64 cls,.bool used,.int .i64 label,.int .u32 nm,.int .u32 next,.int .u32 prev,.int .u32 refs,.int .u64 expiry,.int .u16 ty,.int .i64 size,.int .u32 hash])=>(show(fun V=>V.cell? ⟨w1.heap.size,0,none⟩=some (.int .i64 tag)∧V.cell? ⟨w1.heap.size,1,none⟩=some (.int .i64 cls)∧V.cell? ⟨w1.heap.size,2,none⟩=some (.bool used)∧V.cell? ⟨w1.heap.size,3,none⟩=some (.int .i64 label)∧V.cell? ⟨w1.heap.size,4,none⟩=some (.int .u32 nm)∧V.cell? ⟨w1.heap.size,5,none⟩=some (.int .u32 next)∧V.cell? ⟨w1.heap.size,6,none⟩=some (.int .u32 prev)∧V.cell? ⟨w1.heap.size,7,none⟩=some (.int .u32 refs)∧V.cell? ⟨w1.heap.size,8,none⟩=some (.int .u64 expiry)∧V.cell? ⟨w1.heap.size,9,none⟩=some (.int .u16 ty)∧V.cell? ⟨w1.heap.size,10,none⟩=some (.int .i64 size)∧V.cell? ⟨w1.heap.size,11,none⟩=some (.int .u32 hash)) V from⟨hV.cell 0,hV.cell 1,hV.cell 2,hV.cell 3,hV.cell 4,hV.cell 5,hV.cell 6,hV.cell 7,hV.cell 8,hV.cell 9,hV.cell 10,hV.cell 11⟩));have hY:=HS.out _ VB.drew;generalize hWW:w1.alloc (.cells #[.int .i64 tag,.int .i64 cls,.bool used,.int .i64 label,.int .u32 nm,.int .u32 next,.int .u32 prev,.int .u32 refs,.int .u64 expiry,.int .u16 ty,.int .i64 size,.int .u32 hash] 122)=WV at*;clear hWW;have hAd:=AV;rw[HZ.out]at hAd;rcases hx with⟨hc,ht⟩|⟨hc,hb⟩
 ·(have d0:=hAd.cell 0;have z0:=hAd.frozen 0;have d1:=hAd.cell 1;have z1:=hAd.frozen 1;have d2:=hAd.cell 2;have z2:=hAd.frozen 2;have d3:=hAd.cell 3;have z3:=hAd.frozen 3;have d4:=hAd.cell 4;have z4:=hAd.frozen 4;have d5:=hAd.cell 5;have z5:=hAd.frozen 5;have d6:=hAd.cell 6;have z6:=hAd.frozen 6;have d7:=hAd.cell 7;have z7:=hAd.frozen 7;have d8:=hAd.cell 8;have z8:=hAd.frozen 8;have d9:=hAd.cell 9;have z9:=hAd.frozen 9;have d10:=hAd.cell 10;have z10:=hAd.frozen 10;have d11:=hAd.cell 11;have z11:=hAd.frozen 11;simp[HB.cells]at d0 d1 d2 d3 d4 d5 d6 d7 d8 d9 d10 d11)
  refine wp_region_held_drew (S:=fun V=>V.cell? ⟨w1.heap.size,0,none⟩=some (.int .i64 tag)∧V.cell? ⟨w1.heap.size,1,none⟩=some (.int .i64 cls)∧V.cell? ⟨w1.heap.size,2,none⟩=some (.bool used)∧V.cell? ⟨w1.heap.size,3,none⟩=some (.int .i64 label)∧V.cell? ⟨w1.heap.size,4,none⟩=some (.int .u32 nm)∧V.cell? ⟨w1.heap.size,5,none⟩=some (.int .u32 next)∧V.cell? ⟨w1.heap.size,6,none⟩=some (.int .u32 prev)∧V.cell? ⟨w1.heap.size,7,none⟩=some (.int .u32 refs)∧V.cell? ⟨w1.heap.size,8,none⟩=some (.int .u64 expiry)∧V.cell? ⟨w1.heap.size,9,none⟩=some (.int .u16 ty)∧V.cell? ⟨w1.heap.size,10,none⟩=some (.int .i64 size)∧V.cell? ⟨w1.heap.size,11,none⟩=some (.int .u32 hash)) (by kernel_rfl) (hY) (fun yH=> ?_);refine tkZ 0 ?_;refine tkZ 1 ?_;refine tkZ 2 ?_;refine tkZ 3 ?_;refine tkZ 4 ?_;refine tkZ 5 ?_;refine tkZ 6 ?_;refine tkZ 7 ?_;refine tkC 8 fun K hK=> ?_;go_simp;refine hK.out _ _ _ (zk6 (S:= [w.heap.size]) (w0:=WV) (fun V=>V.drew.cell? ⟨w1.heap.size,0,none⟩=some (.int .i64 tag)∧V.drew.cell? ⟨w1.heap.size,1,none⟩=some (.int .i64 cls)∧V.drew.cell? ⟨w1.heap.size,2,none⟩=some (.bool used)∧V.drew.cell? ⟨w1.heap.size,3,none⟩=some (.int .i64 label)∧V.drew.cell? ⟨w1.heap.size,4,none⟩=some (.int .u32 nm)∧V.drew.cell? ⟨w1.heap.size,5,none⟩=some (.int .u32 next)∧V.drew.cell? ⟨w1.heap.size,6,none⟩=some (.int .u32 prev)∧V.drew.cell? ⟨w1.heap.size,7,none⟩=some (.int .u32 refs)∧V.drew.cell? ⟨w1.heap.size,8,none⟩=some (.int .u64 expiry)∧V.drew.cell? ⟨w1.heap.size,9,none⟩=some (.int .u16 ty)∧V.drew.cell? ⟨w1.heap.size,10,none⟩=some (.int .i64 size)∧V.drew.cell? ⟨w1.heap.size,11,none⟩=some (.int .u32 hash)) AV rfl (Fr.refl _ _) (.inl (by simp)) (fun w9 _ hf=>HS.out w9.drew (VB.fr hf (by simp;omega)).drew)) fun yH=> ?_;clear hK K;refine tkZ 9 ?_;refine wpAnyH_done (by kernel_rfl) ?_ _;go_wp2_with fail;refine zk6 (fun w9=>bodyPost _ _ _ _ _ w9.drew) AV rfl (Fr.refl [w.heap.size] WV) (.inl (by simp)) ?_;intro w9 hb9 hf9;have K9:=(show IsH w9.drew q t from(IsH.fr0 (⟨KV.m.fr hf9 (fun k hk hm=>by simp at hm;subst hm;exact HNA.out hk) (fun k hk hm=>by simp at hm;subst hm;have:=HTs.out;omega),KV.tabs.fr hf9 (by simp;have:=HTt.out;omega),KV.hi⟩:IsH w9 q t) (Fr.refl _ _).drew));have F9:=(show Fr q.blocks w w9.drew from(FV.step hf9 (fun k hk=> .inr (by simp at hk;omega))).drew);(have q0:=hb9.drew.cell 0;have q1:=hb9.drew.cell 1;have q2:=hb9.drew.cell 2;have q3:=hb9.drew.cell 3;have q4:=hb9.drew.cell 4;have q5:=hb9.drew.cell 5;have q6:=hb9.drew.cell 6;have q7:=hb9.drew.cell 7;have q8:=hb9.drew.cell 8;have q9:=hb9.drew.cell 9;have q10:=hb9.drew.cell 10;have q11:=hb9.drew.cell 11;simp at q0 q1 q2 q3 q4 q5 q6 q7 q8 q9 q10 q11);exact bodyPost_ret (by simp[results,results95,go_sem,q0,q1,q2,q3,q4,q5,q6,q7,q8,q9,q10,q11];try rfl) rfl (HP3.out _ K9 F9)
 ·subst hb
  (have d0:=hAd.cell 0;have z0:=hAd.frozen 0;have d1:=hAd.cell 1;have z1:=hAd.frozen 1;have d2:=hAd.cell 2;have z2:=hAd.frozen 2;have d3:=hAd.cell 3;have z3:=hAd.frozen 3;have d4:=hAd.cell 4;have z4:=hAd.frozen 4;have d5:=hAd.cell 5;have z5:=hAd.frozen 5;have d6:=hAd.cell 6;have z6:=hAd.frozen 6;have d7:=hAd.cell 7;have z7:=hAd.frozen 7;have d8:=hAd.cell 8;have z8:=hAd.frozen 8;have d9:=hAd.cell 9;have z9:=hAd.frozen 9;have d10:=hAd.cell 10;have z10:=hAd.frozen 10;have d11:=hAd.cell 11;have z11:=hAd.frozen 11;simp[HB.cells]at d0 d1 d2 d3 d4 d5 d6 d7 d8 d9 d10 d11);refine wp_region_held_drew (S:=fun V=>V.cell? ⟨w1.heap.size,0,none⟩=some (.int .i64 tag)∧V.cell? ⟨w1.heap.size,1,none⟩=some (.int .i64 cls)∧V.cell? ⟨w1.heap.size,2,none⟩=some (.bool used)∧V.cell? ⟨w1.heap.size,3,none⟩=some (.int .i64 label)∧V.cell? ⟨w1.heap.size,4,none⟩=some (.int .u32 nm)∧V.cell? ⟨w1.heap.size,5,none⟩=some (.int .u32 next)∧V.cell? ⟨w1.heap.size,6,none⟩=some (.int .u32 prev)∧V.cell? ⟨w1.heap.size,7,none⟩=some (.int .u32 refs)∧V.cell? ⟨w1.heap.size,8,none⟩=some (.int .u64 expiry)∧V.cell? ⟨w1.heap.size,9,none⟩=some (.int .u16 ty)∧V.cell? ⟨w1.heap.size,10,none⟩=some (.int .i64 size)∧V.cell? ⟨w1.heap.size,11,none⟩=some (.int .u32 hash)) (by kernel_rfl) (hY) (fun yH=> ?_);refine tkZ 0 ?_;refine tkZ 1 ?_;refine tkZ 2 ?_;refine tkZ 3 ?_;refine tkM 4 ?_;refine tkM 5 ?_;refine tkM 6 ?_;refine tkZ 7 ?_;refine tkC 8 fun K hK=> ?_;go_simp;refine hK.out _ _ _ (zk6 (S:= [w.heap.size]) (w0:=WV) (fun V=>V.drew.cell? ⟨w1.heap.size,0,none⟩=some (.int .i64 tag)∧V.drew.cell? ⟨w1.heap.size,1,none⟩=some (.int .i64 cls)∧V.drew.cell? ⟨w1.heap.size,2,none⟩=some (.bool used)∧V.drew.cell? ⟨w1.heap.size,3,none⟩=some (.int .i64 label)∧V.drew.cell? ⟨w1.heap.size,4,none⟩=some (.int .u32 nm)∧V.drew.cell? ⟨w1.heap.size,5,none⟩=some (.int .u32 next)∧V.drew.cell? ⟨w1.heap.size,6,none⟩=some (.int .u32 prev)∧V.drew.cell? ⟨w1.heap.size,7,none⟩=some (.int .u32 refs)∧V.drew.cell? ⟨w1.heap.size,8,none⟩=some (.int .u64 expiry)∧V.drew.cell? ⟨w1.heap.size,9,none⟩=some (.int .u16 ty)∧V.drew.cell? ⟨w1.heap.size,10,none⟩=some (.int .i64 size)∧V.drew.cell? ⟨w1.heap.size,11,none⟩=some (.int .u32 hash)) AV rfl (Fr.refl _ _) (.inl (by simp)) (fun w9 _ hf=>HS.out w9.drew (VB.fr hf (by simp;omega)).drew)) fun yH=> ?_;clear hK K;refine tkZ 9 ?_;refine wpAnyH_done (by kernel_rfl) ?_ _;go_wp2_with fail;refine zk6 (fun w9=>bodyPost _ _ _ _ _ w9.drew) AV rfl (Fr.refl [w.heap.size] WV) (.inl (by simp)) ?_;intro w9 hb9 hf9;have K9:=(show IsH w9.drew q t from(IsH.fr0 (⟨KV.m.fr hf9 (fun k hk hm=>by simp at hm;subst hm;exact HNA.out hk) (fun k hk hm=>by simp at hm;subst hm;have:=HTs.out;omega),KV.tabs.fr hf9 (by simp;have:=HTt.out;omega),KV.hi⟩:IsH w9 q t) (Fr.refl _ _).drew));have F9:=(show Fr q.blocks w w9.drew from(FV.step hf9 (fun k hk=> .inr (by simp at hk;omega))).drew);(have q0:=hb9.drew.cell 0;have q1:=hb9.drew.cell 1;have q2:=hb9.drew.cell 2;have q3:=hb9.drew.cell 3;have q4:=hb9.drew.cell 4;have q5:=hb9.drew.cell 5;have q6:=hb9.drew.cell 6;have q7:=hb9.drew.cell 7;have q8:=hb9.drew.cell 8;have q9:=hb9.drew.cell 9;have q10:=hb9.drew.cell 10;have q11:=hb9.drew.cell 11;simp at q0 q1 q2 q3 q4 q5 q6 q7 q8 q9 q10 q11);exact bodyPost_ret (by simp[results,results95,go_sem,q0,q1,q2,q3,q4,q5,q6,q7,q8,q9,q10,q11];try rfl) rfl (HP3.out _ K9 F9)
end
theorem zvu{t:TM}(hok:t.Ok):zck t.kinds 0 4=1:=by
 have hc:=zge hok.cfg;have hlen:=t.kinds_len
 have h0:t.kinds[0]?.getD 0=1:=by
  rw[t.kinds_get 0 (by omega)];unfold zf0;rw[if_pos (by decide)]
 unfold zck;rw[if_neg (by simp[zb5];omega)];unfold zcj
 have:oneK t.kinds (0/4:Int).toNat ((0+4+3)/4:Int).toNat=true:=by
  show oneK t.kinds 0 1=true;simp[oneK]
 rw[if_pos this];exact h0
section
variable{w:World}{q:MH}{t:TM}{x:Nat}{X:HB}
theorem BlkE.tagN(h:BlkE t x X):X.tag=(X.tag.toNat:Int):=by rcases h.tg with e|e<;>rw[e] <;>rfl
theorem nget(h:IsH w q t)(hx:BlkE t x X):Calls prog 95 #[q,x] w (zR (.tuple #[X.val,.bool (X.tag==2)]) fun w'=>IsH w' q t∧Fr q.blocks w w'):=by
 have:=zvt h x X 0 (fun W hW=>hget W q t hW x X.tag.toNat 5 X hx.h hx.ok hx.r hx.tagN hx.lies (.inl rfl));simpa using this
theorem zvv(h:IsH w q t):Calls prog 95 #[q,(0:Int)] w (zR (.tuple #[zHB.val,false]) fun w'=>IsH w' q t∧Fr q.blocks w w'):=by
 have hk:=zvu h.m.ok;have:=zvt h 0 zHB 30 (fun W hW=>zs7 hW 0 (by rw[hk];decide) (by rw[hk];decide));simpa using this
theorem zvw(h:IsT w q t):Calls prog 79 #[q] w (zN true w):=by
 have hc:=zgy h;have hE:=zpn t.a t.s h.ok.cfg.a1;unfold cfgV at hc;generalize t.a=a at*;generalize t.s=s at*;clear h;go_in;go_wp2_with fail;go_call hc as e w1 ⟨rfl,f1⟩;go_wp2;go_ret;exact⟨rfl,f1⟩
theorem zvx(h:IsH w q t)(hx:BlkE t x X)(h0:x≠0):Calls prog 291 #[q,x] w (zR (.bool (X.tag==2)) fun w'=>IsH w' q t∧Fr q.blocks w w'):=by
 have hg:=(show Calls prog 95 #[q,x] w (zR (.tuple #[.agg #[X.tag,X.cls,X.used,X.label,.int .u32 X.name,.int .u32 X.next,.int .u32 X.prev,.int .u32 X.refs,.int .u64 X.expiry,.int .u16 X.typ,X.size,.int .u32 X.hash],.bool (X.tag==2)]) fun w'=>IsH w' q t∧Fr q.blocks w w')from nget h hx);have b0:((x:Int)==0)=false:=by rw[beq_eq_false_iff_ne];omega
 have b0':(x==0)=false:=by rw[beq_eq_false_iff_ne];omega
 clear h hx h0;obtain⟨tag,cls,used,label,nm,next,prev,refs,expiry,ty,size,hash⟩:=X;simp only at hg⊢;generalize(tag==2)=b at*;go_in;go_wp2_with fail;go_call hg as e w1 ⟨rfl,k1,f1⟩;have K1:=k1.alloc;have F1:=f1.alloc;clear k1 f1;go_wp2;go_ret;exact⟨rfl,(K1 _),(F1 _)⟩
theorem zvy(h:IsH w q t):Calls prog 291 #[q,(0:Int)] w (zR true fun w'=>IsH w' q t∧Fr q.blocks w w'):=by
 have hg:=(show Calls prog 95 #[q,(0:Int)] w (zR (.tuple #[.agg #[(0:Int),(0:Int),false,(0:Int),.int .u32 0,.int .u32 0,.int .u32 0,.int .u32 0,.int .u64 0,.int .u16 0,(0:Int),.int .u32 0],false]) fun w'=>IsH w' q t∧Fr q.blocks w w')from zvv h);clear h;go_in;go_wp2_with fail;go_call hg as e w1 ⟨rfl,k1,f1⟩;have K1:=k1.alloc;have F1:=f1.alloc;clear k1 f1;go_wp2;go_ret;exact⟨rfl,(K1 _),(F1 _)⟩
theorem zvz(h:IsH w q t)(hx:BlkE t x X)(h0:x≠0)(ht:X.tag=2):Calls prog 148 #[q,x] w (zR (.int .u32 X.hash) fun w'=>IsH w' q t∧Fr q.blocks w w'):=by
 have hg:=(show Calls prog 95 #[q,x] w (zR (.tuple #[.agg #[X.tag,X.cls,X.used,X.label,.int .u32 X.name,.int .u32 X.next,.int .u32 X.prev,.int .u32 X.refs,.int .u64 X.expiry,.int .u16 X.typ,X.size,.int .u32 X.hash],.bool (X.tag==2)]) fun w'=>IsH w' q t∧Fr q.blocks w w')from nget h hx);rw[show(X.tag==2)=true from by rw[ht];rfl]at hg;have b0:((x:Int)==0)=false:=by rw[beq_eq_false_iff_ne];omega
 have b0':(x==0)=false:=by rw[beq_eq_false_iff_ne];omega
 clear h hx h0 ht;obtain⟨tag,cls,used,label,nm,next,prev,refs,expiry,ty,size,hash⟩:=X;simp only at hg⊢;go_in;go_wp2_with fail;go_call hg as e w1 ⟨rfl,k1,f1⟩;have K1:=k1.alloc;have F1:=f1.alloc;clear k1 f1;go_wp2;go_ret;exact⟨rfl,(K1 _),(F1 _)⟩
theorem zv0(w:World)(p:Value):Calls prog 148 #[p,(0:Int)] w (zE (.int .u32 2166136261) w):=by
 have hc:=zvs w;go_in;go_wp2_with fail;go_call hc as e w1 ⟨rfl,rfl⟩;go_wp2;go_ret;exact⟨rfl,rfl⟩
theorem zv1(h:IsH w q t)(hx:BlkE t x X)(ht:X.tag=2):Calls prog 40 #[q,x] w (zR X.refs fun w'=>IsH w' q t∧Fr q.blocks w w'):=by
 have hg:=(show Calls prog 95 #[q,x] w (zR (.tuple #[.agg #[X.tag,X.cls,X.used,X.label,.int .u32 X.name,.int .u32 X.next,.int .u32 X.prev,.int .u32 X.refs,.int .u64 X.expiry,.int .u16 X.typ,X.size,.int .u32 X.hash],.bool (X.tag==2)]) fun w'=>IsH w' q t∧Fr q.blocks w w')from nget h hx);rw[show(X.tag==2)=true from by rw[ht];rfl]at hg;have hr:=hx.ok.refs;clear h hx ht;obtain⟨tag,cls,used,label,nm,next,prev,refs,expiry,ty,size,hash⟩:=X;simp only at hg hr⊢;have wr:IntKind.i64.wrap (refs:Int)=(refs:Int):=i6 _;go_in;go_wp2_with fail;go_call hg as e w1 ⟨rfl,k1,f1⟩;have K1:=k1.alloc;have F1:=f1.alloc;clear k1 f1;go_wp2;go_ret;exact⟨rfl,(K1 _),(F1 _)⟩
theorem zv2(h:IsH w q t):Calls prog 41 #[q] w (zR (.int .i64 (t.rt 17)) fun w'=>IsH w' q t∧Fr q.blocks w w'):=by
 have hr:=(show Calls prog 50 #[q,(17:Int)] w (zR (.int .u64 (t.rt 17)) fun w'=>IsT w' q t∧Fr q.blocks w w')from zgw h.m 17 (by decide) 17 rfl);have hlt:=h.m.ok.rt 17
 have w1:IntKind.i64.wrap (t.rt 17:Int)=(t.rt 17:Int):=i64_in _ (by
  have:fldW 17=4:=rfl;rw[this]at hlt;omega)
 generalize hz:t.rt 17=z at*;clear hlt hz;go_in;go_wp2_with fail;go_call hr as e w1 ⟨rfl,k1,f1⟩;have K1:=h.step k1 f1;clear k1;go_wp2;go_ret;exact⟨rfl,K1,f1⟩
theorem zv3(h:IsH w q t)(d:Int)(n:Nat)(hn:(t.rt 17:Int)+d=n)(hd: -1≤d∧d≤1)(hn4:n<4294967296):Calls prog 295 #[q,d] w (zR (.tuple #[]) fun w'=>IsH w' q (t.setRt 17 n)∧Fr q.blocks w w'):=by
 have hc:=zv2 h;have HS:=hid (fun W (hW:IsH W q t)=>(show Calls prog 80 #[q,(17:Int),.int .u64 n] W (zR true fun w'=>IsT w' q (t.setRt 17 n)∧Fr q.blocks W w')from zgx hW.m 17 (by decide) n (by show n<256^4;omega) 17 rfl n rfl));have hlt:t.rt 17<4294967296:=h.m.ok.rt 17;have w1:IntKind.i64.wrap ((t.rt 17:Int)+d)=(n:Int):=by rw[i6 _];exact hn
 have w2:IntKind.u64.wrap (n:Int)=(n:Int):=by show(n:Int) %18446744073709551616=n;omega
 generalize t.rt 17=z at*;clear hlt h hn;go_in;go_wp2_with fail;go_call hc as e w1 ⟨rfl,k1,f1⟩;clear hc;go_wp2_with fail;go_call HS.out _ k1 as e w2 ⟨rfl,k2,f2⟩;have K2:=k1.step k2 f2;have F2:=f1.trans f2;clear k2 f2;go_wp2;go_end0;exact⟨rfl,K2,F2⟩
end
section
variable{w:World}{q:MH}{t:TM}{x:Nat}{X:HB}
theorem zv4(X:HB)(v:Nat):({X with refs:=v}:HB).num=up X.num 11 v:=by
 funext f;unfold up;by_cases h:f=11
 ·subst h;rfl
 ·rw[if_neg h]
  show({X with refs:=v}:HB).nums[f]?.getD 0=X.nums[f]?.getD 0;unfold HB.nums;rcases f with _|_|_|_|_|_|_|_|_|_|_|_|f;all_goals first|rfl|(exact absurd rfl h)
theorem zv5(hr:X.right=true)(ht:X.tag=2)(v:Nat):({X with refs:=v}:HB).right=true:=by
 have hl:∀k,({X with refs:=v}:HB).lackTo k=true→X.lackTo k=true:=by
  intro k;induction k with
  |zero=>exact id
  |succ k ih=>
   intro h;unfold HB.lackTo at h⊢;rw[Bool.or_eq_true]at h⊢;rcases h with h|h
   ·exact .inl (ih h)
   ·right
    unfold HB.lackAt at h⊢;rw[zv4]at h;by_cases hk:k=11
    ·subst hk
     have h2:(({X with refs:=v}:HB)).tag=2:=ht;rw[h2]at h;have:((whZ 2 ((11:Nat):Int)).2==0)=false:=rfl;rw[this,Bool.and_false]at h;cases h
    ·rw[zf2 _ _ hk]at h
     exact h
 unfold HB.right at hr⊢;rw[Bool.and_eq_true,Bool.and_eq_true]at hr⊢;obtain⟨⟨h1,h2⟩,h3⟩:=hr;refine⟨⟨h1,?_⟩,h3⟩;cases h:({X with refs:=v}:HB).lackTo 12 with
 |false=>rfl
 |true=>
  rw[hl 12 h]at h2;cases h2
theorem BlkE.refs(h:BlkE t x X)(hok:t.Ok)(ht:X.tag=2)(n:Nat)(hn:n<4294967296):BlkE (t.setB (x+8) 4 n) x {X with refs:=n}:=by
 have hh:=h.h;rw[show X.tag.toNat=2 from by rw[ht];rfl]at hh;have hs:=hh.set hok (by decide) 11 (by decide) (by decide) n (by show n<256^4;omega);refine⟨?_,⟨h.ok.tag,h.ok.cls,h.ok.label,h.ok.name,h.ok.next,h.ok.prev,hn,h.ok.expiry,h.ok.typ,h.ok.size,h.ok.hash⟩,zv5 h.r ht n,h.tg⟩;show HeadTo _ x X.tag.toNat 5 ({X with refs:=n}:HB).num 12;rw[show X.tag.toNat=2 from by rw[ht];rfl,zv4];exact hs
theorem zv6(h:IsH w q t)(hx:BlkE t x X)(ht:X.tag=2)(d:Int)(n:Nat)(hn:(X.refs:Int)+d=n)(hd: -1≤d∧d≤1)(hn4:n<4294967296):Calls prog 241 #[q,x,d] w (zR n fun w'=>IsH w' q (t.setB (x+8) 4 n)∧Fr q.blocks w w'):=by
 have h2:X.tag.toNat=2:=by rw[ht];rfl
 have hh:=hx.h;have hly:=hx.lies;rw[h2]at hh hly;have hl:=(show Calls prog 230 #[q,x,(11:Int)] w (zR (.int .u64 X.refs) fun w'=>IsH w' q t∧Fr q.blocks w w')from zl2 h hh hly 11)
 have HS:=hid (fun W (hW:IsH W q t)=>(show Calls prog 231 #[q,x,(11:Int),.int .u64 n] W (zR true fun w'=>IsH w' q (t.setB (x+8) 4 n)∧Fr q.blocks W w')from by
  have:=zl4 hW hh hly 11 n (by omega)
  have e1:hstB 2 11 n=true:=by
   unfold hstB;have:(whZ ((2:Nat):Int) 11).2=4:=rfl;rw[this,show decide (n<256^4)=true from decide_eq_true (by omega)];rfl
  unfold TM.hst at this;rw[e1,if_pos rfl]at this;exact this))
 have hr:=hx.ok.refs;have w0:IntKind.i64.wrap (X.refs:Int)=(X.refs:Int):=i6 _;have w1:IntKind.i64.wrap ((X.refs:Int)+d)=(n:Int):=by rw[i6 _];exact hn
 have w2:IntKind.u64.wrap (n:Int)=(n:Int):=by show(n:Int) %18446744073709551616=n;omega
 generalize X.refs=z at*;clear hr hn hh hly hx h;go_in;go_wp2_with fail;go_call hl as e w1 ⟨rfl,k1,f1⟩;clear hl;go_wp2_with fail;go_call HS.out _ k1 as e w2 ⟨rfl,k2,f2⟩;have F2:=f1.trans f2;clear f2;go_wp2;go_ret;exact⟨rfl,k2,F2⟩
end
def clsN(m:Nat):Nat:=if m≤32 then 1 else if m≤48 then 2 else if m≤64 then 3 else 4
theorem zv7(m:Nat)(h:m≤96):1≤clsN m∧clsN m≤9∧m≤csz (clsN m):=by
 unfold clsN;split
 ·exact⟨by decide,by decide,by show m≤32;omega⟩
 ·split
  ·exact⟨by decide,by decide,by show m≤48;omega⟩
  ·split
   ·exact⟨by decide,by decide,by show m≤64;omega⟩
   ·exact⟨by decide,by decide,by show m≤96;omega⟩
section
variable{w:World}{q:MH}{t:TM}{x:Nat}{X:HB}
theorem cof(hM:TabM w)(m:Nat)(h1:1≤m)(h96:m≤96):Calls prog 120 #[m] w (zE (.tuple #[(clsN m),(0:Int)]) w):=by
 have c0:=hM.cls 0;have c1:=hM.cls 1;have c2:=hM.cls 2;have c3:=hM.cls 3;have c4:=hM.cls 4;have c5:=hM.cls 5;have c6:=hM.cls 6;have c7:=hM.cls 7;have c8:=hM.cls 8;have c9:=hM.cls 9;simp[clsT,zdn]at c0 c1 c2 c3 c4 c5 c6 c7 c8 c9;have x0:∀W,(Instr.index 165 (.agg #[(0:Int),(32:Int),(48:Int),(64:Int),(96:Int),(128:Int),(192:Int),(256:Int),(384:Int),(512:Int)]) (.int .i64 0)).run prog W= .ok (.int .i64 0) W:=fun W=>by kernel_rfl
 have x1:∀W,(Instr.index 165 (.agg #[(0:Int),(32:Int),(48:Int),(64:Int),(96:Int),(128:Int),(192:Int),(256:Int),(384:Int),(512:Int)]) (.int .i64 1)).run prog W= .ok (.int .i64 32) W:=fun W=>by kernel_rfl
 have x2:∀W,(Instr.index 165 (.agg #[(0:Int),(32:Int),(48:Int),(64:Int),(96:Int),(128:Int),(192:Int),(256:Int),(384:Int),(512:Int)]) (.int .i64 2)).run prog W= .ok (.int .i64 48) W:=fun W=>by kernel_rfl
 have x3:∀W,(Instr.index 165 (.agg #[(0:Int),(32:Int),(48:Int),(64:Int),(96:Int),(128:Int),(192:Int),(256:Int),(384:Int),(512:Int)]) (.int .i64 3)).run prog W= .ok (.int .i64 64) W:=fun W=>by kernel_rfl
 have x4:∀W,(Instr.index 165 (.agg #[(0:Int),(32:Int),(48:Int),(64:Int),(96:Int),(128:Int),(192:Int),(256:Int),(384:Int),(512:Int)]) (.int .i64 4)).run prog W= .ok (.int .i64 96) W:=fun W=>by kernel_rfl
 have b0:=dF ((m:Int)<1);have b1':=dF (m=0);clear hM;unfold clsN;by_cases h32:m≤32
 ·have b32:=dT ((m:Int)≤32)
  rw[if_pos h32];go_in;go_wp2_with fail;refine wp_loop_rounds 2 ?_;rw[rounds_succ];go_wp2_with fail;rw[rounds_succ];go_wp2;go_ret2;exact⟨rfl,rfl⟩
 have b32:=dF ((m:Int)≤32);rw[if_neg h32];by_cases h48:m≤48
 ·have b48:=dT ((m:Int)≤48)
  rw[if_pos h48];go_in;go_wp2_with fail;refine wp_loop_rounds 3 ?_;rw[rounds_succ];go_wp2_with fail;rw[rounds_succ];go_wp2_with fail;rw[rounds_succ];go_wp2;go_ret2;exact⟨rfl,rfl⟩
 have b48:=dF ((m:Int)≤48);rw[if_neg h48];by_cases h64:m≤64
 ·have b64:=dT ((m:Int)≤64)
  rw[if_pos h64];go_in;go_wp2_with fail;refine wp_loop_rounds 4 ?_;rw[rounds_succ];go_wp2_with fail;rw[rounds_succ];go_wp2_with fail;rw[rounds_succ];go_wp2_with fail;rw[rounds_succ];go_wp2;go_ret2;exact⟨rfl,rfl⟩
 have b64:=dF ((m:Int)≤64);rw[if_neg h64];have b96:=dT ((m:Int)≤96);go_in;go_wp2_with fail;refine wp_loop_rounds 5 ?_;rw[rounds_succ];go_wp2_with fail;rw[rounds_succ];go_wp2_with fail;rw[rounds_succ];go_wp2_with fail;rw[rounds_succ];go_wp2_with fail;rw[rounds_succ];go_wp2;go_ret2;exact⟨rfl,rfl⟩
theorem zv8(hM:TabM w)(m:Nat)(h1:1≤m)(h63:m≤63):Calls prog 224 #[m] w (zE (.tuple #[.int .i64 (clsN (16+m)),(0:Int)]) w):=by
 have hc:=cof hM (16+m) (by omega) (by omega);have b0:=dF ((m:Int)<1);have b1:=dF ((63:Int)<(m:Int));have hw:IntKind.i64.wrap (16+(m:Int))=((16+m:Nat):Int):=by rw[i6 _];omega
 generalize 16+m=k at*;clear hM;go_in;go_wp2_with fail;go_call hc as e w1 ⟨rfl,rfl⟩;go_wp2;go_ret2;exact⟨rfl,rfl⟩
theorem zv9(hM:TabM w)(l:List Nat)(hl:∀b∈l,b<256):Calls prog 117 #[.string (za0 l)] w (zR (if zuz l then .tuple #[.int .i64 (clsN (16+l.length)),(0:Int)]else .tuple #[(0:Int),(20:Int)]) fun w'=>Fr [] w w'):=by
 have hf:=zu5 w l hl;have hs:=zu1 l;by_cases hk:zuz l=true
 ·have hlen:1≤l.length∧l.length≤63:=by
   unfold zuz at hk;simp only[Bool.and_eq_true,decide_eq_true_eq]at hk;exact hk.1
  rw[if_pos hk]at hf⊢;have HC:=hid (fun W (hf:Fr [] w W)=>zv8 (hM.fr hf (by simp)) l.length hlen.1 hlen.2);have hsz:((za0 l).size:Int)=l.length:=by rw[hs]
  clear hk hl hlen hM hs;generalize 16+l.length=k at*;generalize l.length=n at*;generalize za0 l=s at*;go_in;go_wp2_with fail;go_call hf as e w1 ⟨rfl,f1⟩;go_wp2_with fail;go_call HC.out _ f1 as e w2 ⟨rfl,rfl⟩;go_wp2;go_ret2;exact⟨rfl,f1⟩
 ·rw[if_neg hk]at hf⊢
  clear hk hl hM hs;generalize za0 l=s at*;go_in;go_wp2_with fail;go_call hf as e w1 ⟨rfl,f1⟩;go_wp2;go_ret2;exact⟨rfl,f1⟩
theorem zwa{b:List Nat}{y:Nat}(hb:ByOn t y b.length (fun j=>b[j]?.getD 0)):t.part y b.length=b:=by
 unfold TM.part;apply List.ext_getElem?;intro i;rcases Nat.lt_or_ge i b.length with h|h
 ·rw[List.getElem?_map,List.getElem?_range h,Option.map_some,hb i h]
  show some (b[i]?.getD 0)=b[i]?;rw[List.getElem?_eq_getElem h];rfl
 ·rw[List.getElem?_eq_none (by simp;exact h),List.getElem?_eq_none h]
theorem zwb(h:IsH w q t)(x':Int)(y:Nat)(hx':x'=y)(b:List Nat)(hb:ByOn t y b.length (fun j=>b[j]?.getD 0))(N:Nat)(hN:N %4=0)(hn:b.length≤N)(hy4:y %4=0)(hl:y+N≤zdw t.a t.s)(hk:KdOn t y N 5)(n':Int)(hn':n'=b.length):Calls prog 143 #[q,x',n',(5:Int)] w fun e w'=>∃g cap,e= .returned (.slice (some ⟨g,0,none⟩) b.length cap)∧w.heap.size≤g∧RowB w' g cap b∧IsH w' q t∧Fr q.blocks w w':=by
 have:=zn4 h.m y b.length N 5 hl hk hy4 hN hn (by decide) x' n' 5 hx' hn' rfl;rw[zwa hb]at this;exact this.mono fun e w' ⟨v,g,cap,he,hv,hg,hr,hT,hf⟩=>⟨g,cap,by rw[he,hv],hg,hr,h.step hT hf,hf⟩
theorem zwc(h:IsH w q t)(hx:BlkE t x X)(ht:X.tag=2)(b:List Nat)(hlb:X.label=(b.length:Int))(hlen:b.length≤63)(hlt:∀y∈b,y<256)(hb:ByOn t (x+16) b.length (fun j=>b[j]?.getD 0))(n:Nat)(hn:16+b.length≤n)(hn16:n %16=0)(hx16:x %16=0)(hxn:x+n≤zdw t.a t.s)(hk:KdOn t x n 5):Calls prog 144 #[q,x] w (zR (.tuple #[.string (za0 b),(0:Int)]) fun w'=>IsH w' q t∧Fr q.blocks w w'):=by
 have HG:=hid (fun W (hW:IsH W q t)=>(show Calls prog 95 #[q,x] W (zR (.tuple #[.agg #[X.tag,X.cls,X.used,X.label,.int .u32 X.name,.int .u32 X.next,.int .u32 X.prev,.int .u32 X.refs,.int .u64 X.expiry,.int .u16 X.typ,X.size,.int .u32 X.hash],.bool (X.tag==2)]) fun w'=>IsH w' q t∧Fr q.blocks W w')from nget hW hx));rw[show(X.tag==2)=true from by rw[ht];rfl]at HG;have hle:=zdx t.a t.s h.m.ok.cfg;have HR:=hid (fun W (hW:IsH W q t)=>zwb hW ((x:Int)+16) (x+16) (by omega) b hb ((b.length+3)/4*4) (by omega) (by omega) (by omega) (by omega) (fun g g1 g2=>hk g (by omega) (by omega)) X.label hlb);have HCv:=hid (fun W g cap (hr:RowB W g cap b)=>za3 W _ cap b (hr.byt hlt (by omega)));have hm:=zvw h.m;have wx:=i6 ((x:Int)+16);clear hx ht hlb hlen hlt hb hn hk hxn hle;obtain⟨tag,cls,used,label,nm,next,prev,refs,expiry,ty,size,hash⟩:=X;simp only at HG HR⊢;generalize za0 b=s at*;generalize b.length=m at*;go_in;go_wp2_with fail;go_call hm as e w0 ⟨rfl,f0⟩;have K0:=h.fr0 f0;have F0:=f0.nil (S:=q.blocks);clear f0 hm;go_wp2_with fail;go_call HG.out _ K0 as e w1 ⟨rfl,k1,f1⟩;have K1:=k1.alloc;have F1:=(F0.trans f1).alloc;clear k1 f1;go_wp2_with fail;go_call HR.out _ (K1 _) as e w2 ⟨g,cap,rfl,hg,hr,k2,f2⟩;have F2:=(F1 _).trans f2;have hcv:=HCv.out _ g cap hr;clear f2 hr hg;go_wp2;go_ret2;exact⟨rfl,k2,F2⟩
end
def isNd(E:Nat→HB)(B:Nat→List Nat)(name:Nat)(lab:List Nat)(hs z:Nat):Bool:=(E z).tag==2&&(E z).name==name&&B z==lab&&(E z).hash==hs
section
variable{w0 W w:World}{q:MH}{S:SS}{x:Nat}{t u:TM}{L:Nat→Prop}{E:Nat→HB}{B:Nat→List Nat}
theorem zwd(g:WB w0 q S L u E B W)(h:IsH w q u)(hx:L x)(name hs bA bB bC bD:Nat)(lab:List Nat)(hl:∀b∈lab,b<256)(hlen:lab.length≤9223372036854775807)(nA:bA∉q.blocks)(nB:bB∉q.blocks)(nC:bC∉q.blocks)(nD:bD∉q.blocks)
  (kA:Blk w bA 26 #[q]) (kB:Blk w bB 120 #[.int .u32 name]) (kC:Blk w bC 9 #[.string (za0 lab)]) (kD:Blk w bD 120 #[.int .u32 hs]):
  Calls prog 320 #[x,some bA,some bB,some bC,some bD] w (zR (.bool (isNd E B name lab hs x)) fun w'=>IsH w' q u∧Fr q.blocks w w'):=by
 have hB:=g.ix.e x hx;have hct:=g.ct x hx;obtain⟨cn,-,_,_,hlv,hfit⟩:=hct.n
 have hlb:(E x).tag=2→(E x).label=((B x).length:Int)∧(B x).length≤63∧(∀b∈B x,b<256)∧ByOn u (x+16) (B x).length (fun j=>(B x)[j]?.getD 0)∧16+(B x).length≤csz cn:=fun ht=>by
  obtain⟨m1,m2,m3⟩:=hct.l2 ht;have ho:=hct.on;rw[show(E x).tag.toNat=2 from by rw[ht];rfl]at ho hfit;exact⟨m1,m3,hct.lt,ho,hfit⟩
 obtain⟨v1,v2,v3,v4,v5,v6,v7⟩:=g.at_ hlv;have hx2:=(hB.pos g.h.m.ok).2;clear hct hfit
 have HG:=hid (fun W (hW:IsH W q u)=>(show Calls prog 138 #[q,x] W (zR (.tuple #[.agg #[.int .i64 (E x).tag,.int .i64 (E x).cls,.bool (E x).used,.int .i64 (E x).label,.int .u32 (E x).name,.int .u32 (E x).next,.int .u32 (E x).prev,.int .u32 (E x).refs,.int .u64 (E x).expiry,.int .u16 (E x).typ,.int .i64 (E x).size,.int .u32 (E x).hash],(0:Int)]) fun w'=>IsH w' q u∧Fr q.blocks W w')from
  hget W q u hW x (E x).tag.toNat 5 (E x) hB.h hB.ok hB.r (by rcases hB.tg with e|e<;>rw[e] <;>rfl) hB.lies (.inl rfl)))
 have cA:w.cell? ⟨bA,0,none⟩=some (.pointer (some ⟨q.m,0,none⟩)):=by simpa using kA.cell 0
 have htg:=hB.tg;unfold isNd;generalize E x=X at*;generalize B x=l at*;obtain⟨tag,cls,used,label,nm,next,prev,refs,expiry,ty,size,hash⟩:=X;simp only at HG htg hlb⊢;rcases htg with rfl|rfl
 ·have hF:=hid (show(((1:Int)==2)&&nm==name&&l==lab&&hash==hs)=false from by simp)
  rw[hF.out];clear hB hlb hlv v1 v2 v3 v4 v5 v6 v7 hx2 g kA kB kC kD;go_in;go_wp2_with fail;go_call HG.out _ h as e w1 ⟨rfl,k1,f1⟩;clear HG;go_wp2;go_ret;exact⟨rfl,k1.alloc _,f1.alloc _⟩
 ·obtain⟨l1,l2,l3,l4,l5⟩:=hlb rfl
  subst l1
  have hpart:u.part (x+16) l.length=l:=by
   refine List.ext_getElem (by simp[TM.part]) (fun j j1 j2=> ?_);have:=l4 j j2;simp only at this;simp[TM.part,this,List.getElem?_eq_getElem j2]
  have HR:=hid (fun W (hW:IsH W q u)=>(show Calls prog 143 #[q,((x:Int)+16:),l.length,(5:Int)] W fun e w'=>∃gr cap,e= .returned (.slice (some ⟨gr,0,none⟩) l.length cap)∧W.heap.size≤gr∧RowB w' gr cap l∧IsH w' q u∧Fr q.blocks W w' from by
   have hr:=zn4 hW.m (x+16) l.length ((l.length+3)/4*4) 5 (by omega) (fun k h1 h2=>v7 k (by omega) (by omega)) (by omega) (by omega) (by omega) (by decide) ((x:Int)+16) l.length 5 (by omega) rfl rfl;rw[hpart]at hr;exact hr.mono fun e w' ⟨v,g,cap,k1,k2,k3,k4,k5,k6⟩=>⟨g,cap,by rw[k1,k2],k3,k4,hW.step k5 k6,k6⟩))
  have HCV:=hid (show∀W g cw,RowB W g cw l→(convert 49 9 (.slice (some ⟨g,0,none⟩) l.length cw)).run prog W= .ok (.string (za0 l)) W from fun W g cw hr=>za3 W _ cw _ (hr.byt l3 (by omega)));obtain⟨b2,h2⟩:∃b:Bool,(nm==name)=b:=⟨_,rfl⟩;obtain⟨b3,h3⟩:∃b:Bool,(l.length==lab.length)=b:=⟨_,rfl⟩;obtain⟨b4,h4⟩:∃b:Bool,(hash==hs)=b:=⟨_,rfl⟩;obtain⟨b5,h5⟩:∃b:Bool,(l==lab)=b:=⟨_,rfl⟩;have e2:((nm:Int) !=name)= !b2:=by rw[←h2,bne,Bool.not_inj_iff,Bool.eq_iff_iff,beq_iff_eq,beq_iff_eq];omega
  have e3:((l.length:Int) !=(za0 lab).size)= !b3:=by rw[←h3,zu1,bne,Bool.not_inj_iff,Bool.eq_iff_iff,beq_iff_eq,beq_iff_eq];omega
  have e4:((hash:Int) !=hs)= !b4:=by rw[←h4,bne,Bool.not_inj_iff,Bool.eq_iff_iff,beq_iff_eq,beq_iff_eq];omega
  have e5:((za0 l).toList==(za0 lab).toList)=b5:=by rw[←h5];exact za2 l lab l3 hl
  have HB:=hid (show(((2:Int)==2)&&nm==name&&l==lab&&hash==hs)=(b2&&b3&&b4&&b5)from by
   rw[h2,h4,h5];cases b5 with
   |true=>
    have:l=lab:=by simpa using h5
    rw[this]at h3;rw[←h3];cases b2<;>cases b4<;>simp
   |false=>cases b2<;>cases b4<;>cases b3<;>rfl)
  have wx:=i6 ((x:Int)+16);rw[HB.out];generalize za0 lab=sb at*;generalize za0 l=sl at*;generalize l.length=n at*;clear hB hlb hlv v1 v2 v3 v4 v5 v6 v7 hx2 g h2 h3 h4 h5 HB hpart l2 l3 l4 l5 hl hlen;go_in;go_wp2_with fail;go_call HG.out _ h as e w1 ⟨rfl,k1,f1⟩;have hql:w1.heap.size∉q.blocks:=fun hm=>by have:=k1.m.lt _ hm;omega
  have A1:=(kA.fr f1 nA).alloc (.cells #[(2:Int),cls,used,n,.int .u32 nm,.int .u32 next,.int .u32 prev,.int .u32 refs,.int .u64 expiry,.int .u16 ty,size,.int .u32 hash] 122);have C1:=(kC.fr f1 nC).alloc (.cells #[(2:Int),cls,used,n,.int .u32 nm,.int .u32 next,.int .u32 prev,.int .u32 refs,.int .u64 expiry,.int .u16 ty,size,.int .u32 hash] 122);have G1:=Blk.new w1 122 #[.int .i64 2,.int .i64 cls,.bool used,.int .i64 n,.int .u32 nm,.int .u32 next,.int .u32 prev,.int .u32 refs,.int .u64 expiry,.int .u16 ty,.int .i64 size,.int .u32 hash];have K2:=k1.alloc;have F2:=f1.alloc;have d1:=A1.cell 0;have d2:=((kB.fr f1 nB).alloc (.cells #[(2:Int),cls,used,n,.int .u32 nm,.int .u32 next,.int .u32 prev,.int .u32 refs,.int .u64 expiry,.int .u16 ty,size,.int .u32 hash] 122)).cell 0;have d3:=C1.cell 0;have d4:=((kD.fr f1 nD).alloc (.cells #[(2:Int),cls,used,n,.int .u32 nm,.int .u32 next,.int .u32 prev,.int .u32 refs,.int .u64 expiry,.int .u16 ty,size,.int .u32 hash] 122)).cell 0;simp only[List.getElem?_toArray,List.getElem?_cons_zero]at d1 d2 d3 d4;clear HG kA kB kC kD h k1 f1;have DC:=hid (fun V (hV:Fr q.blocks (w1.alloc (.cells #[(2:Int),cls,used,n,.int .u32 nm,.int .u32 next,.int .u32 prev,.int .u32 refs,.int .u64 expiry,.int .u16 ty,size,.int .u32 hash] 122)) V)=>And.intro (show V.cell? ⟨bA,0,none⟩=some (.pointer (some ⟨q.m,0,none⟩))from(A1.fr hV nA).cell 0) (And.intro (show V.cell? ⟨bC,0,none⟩=some (.string sb)from(C1.fr hV nC).cell 0) (show V.cell? ⟨w1.heap.size,3,none⟩=some (.int .i64 n)from(G1.fr hV hql).cell 3)));obtain⟨c2,hc2⟩:∃c,(!b2)=c:=⟨_,rfl⟩;obtain⟨c3,hc3⟩:∃c,(!b3)=c:=⟨_,rfl⟩;obtain⟨c4,hc4⟩:∃c,(!b4)=c:=⟨_,rfl⟩;rw[hc2]at e2;rw[hc3]at e3;rw[hc4]at e4;by_cases hall:(b2&&b3&&b4)=true
  ·simp only[Bool.and_eq_true]at hall
   obtain⟨⟨rfl,rfl⟩,rfl⟩:=hall;subst hc2 hc3 hc4;rw[show(!true)=false from rfl]at e2 e3 e4;go_wp2_with fail;have hY:=DC.out _ (Fr.refl _ _).drew;refine wp_region_held_drew (S:=fun W=>W.cell? ⟨bA,0,none⟩=some (.pointer (some ⟨q.m,0,none⟩))∧W.cell? ⟨bC,0,none⟩=some (.string sb)∧W.cell? ⟨w1.heap.size,3,none⟩=some (.int .i64 n)) (by kernel_rfl) (hY) (fun yH=> ?_);refine tkZ 0 ?_;refine tkZ 1 ?_;refine tkZ 2 ?_;refine tkZ 3 ?_;refine tkZ 4 ?_;refine tkZ 7 ?_;refine tkC 5 fun K hK=> ?_;go_simp;go_call HR.out _ ((K2 _).drew) as e w5 ⟨gr,cap,rfl,_,hrb,h5,f5⟩;have F5:=(F2 _).drew.trans f5;have hs6:=HCV.out _ _ _ hrb;have hY:=DC.out _ ((Fr.refl _ _).drew.trans f5);clear f5 hrb;go_wp2_with fail;refine hK.out _ _ _ hY fun yH=> ?_;clear hK K;refine tkC 6 fun K hK=> ?_;go_simp;refine hK.out _ _ _ hY fun yH=> ?_;clear hK K;refine tkZ 8 ?_;refine tkZ 9 ?_;refine wpAnyH_done (by kernel_rfl) ?_ _;try simp only[gP,List.getElem_cons_zero]
   go_wp2;go_ret;exact⟨rfl,h5,F5⟩
  ·have HFF:=hid (show(b2&&b3&&b4&&b5)=false from by rw[Bool.eq_false_iff.2 hall];rfl)
   have hcc:c2=true∨(c2=false∧c3=true)∨(c2=false∧c3=false∧c4=true):=by
    revert hall hc2 hc3 hc4;cases b2<;>cases b3<;>cases b4<;>simp<;>intros<;>simp_all
   clear hall hc2 hc3 hc4;rcases hcc with rfl|⟨rfl,rfl⟩|⟨rfl,rfl,rfl⟩
   all_goals
    go_wp2;go_ret;exact⟨by rw[HFF.out];rfl,(K2 _),(F2 _)⟩
theorem zwe(h:IsH w q t)(g:IxI t L E)(P:Nat→Bool)(hs bA bB bC bD:Nat)(hh:hs<4294967296)(hIS:∀W,IsH W q t→Fr q.blocks w W→∀y,L y→Calls prog 320 #[y,some bA,some bB,some bC,some bD] W (zR (.bool (P y)) fun w'=>IsH w' q t∧Fr q.blocks W w')):Calls prog 145 #[.agg #[q,t.s],.agg #[.int .u32 hs,.func (.func 320) #[] #[.pointer (some ⟨bA,0,none⟩),.pointer (some ⟨bB,0,none⟩),.pointer (some ⟨bC,0,none⟩),.pointer (some ⟨bD,0,none⟩)]]] w (zR (match fndT t.sl (hmE t E) t.s (hs %t.s) P with|some i=> .tuple #[(t.sl i),true] |none=> .tuple #[(0:Int),false]) fun w'=>IsH w' q t∧Fr q.blocks w w'):=by
 have hs0:=g.s0;have hs1:=g.s1;have hF0:Fr q.blocks w ((w.alloc (.cells #[q,t.s] 141)).alloc (.cells #[.int .u32 hs,.func (.func 320) #[] #[.pointer (some ⟨bA,0,none⟩),.pointer (some ⟨bB,0,none⟩),.pointer (some ⟨bC,0,none⟩),.pointer (some ⟨bD,0,none⟩)]] 208)):=((Fr.refl q.blocks w).alloc _).alloc _;have H0:=(h.alloc (.cells #[q,t.s] 141)).alloc (.cells #[.int .u32 hs,.func (.func 320) #[] #[.pointer (some ⟨bA,0,none⟩),.pointer (some ⟨bB,0,none⟩),.pointer (some ⟨bC,0,none⟩),.pointer (some ⟨bD,0,none⟩)]] 208);have HF:=hid (zuy H0 g P hs bA bB bC bD hh (fun W hW hf y hy=>hIS W hW (hF0.trans hf) y hy));have B0:=(Blk.new w 141 #[.pointer (some ⟨q.m,0,none⟩),.int .i64 t.s]).alloc;have hlt:=h.m.lt;have nb:w.heap.size∉q.blocks:=fun hm=>by have:=hlt _ hm;omega
 have HGT:=hid (fun W (i:Nat) (hi:i<t.s) (hW:IsH W q t)=>(show Calls prog 177 #[.agg #[q,t.s],i] W (zR (t.sl i) fun w'=>IsH w' q t∧Fr q.blocks W w')from by
  have:=iget hW.m i (by omega) hs0;rw[Nat.mod_eq_of_lt hi]at this;exact this.mono fun e w' ⟨he,k1,k2⟩=>⟨he,hW.step k1 k2,k2⟩))
 have hlt2:∀i,fndT t.sl (hmE t E) t.s (hs %t.s) P=some i→i<t.s:=fun i e=>zuk hs0 _ _ _ e;generalize fndT t.sl (hmE t E) t.s (hs %t.s) P=R at*;generalize t.sl=T at*;generalize t.s=s at*;clear h H0 hIS hlt g;rcases R with _|i
 ·rw[show optZ none= -1 from rfl]at HF
  clear hlt2;go_in;go_wp2_with fail;go_call HF.out as e w1 ⟨rfl,k1,f1⟩;have F1:=hF0.trans f1;clear f1;go_wp2;go_ret2;exact⟨rfl,k1,F1⟩
 ·have hi:=hlt2 i rfl
  rw[show optZ (some i)=i from rfl]at HF;have hi0':((i:Int)== -1)=false:=by rw[beq_eq_false_iff_ne];omega
  have HG:=hid (fun W hW=>HGT.out W i hi hW);dsimp only;generalize T i=v at*;clear hlt2;go_in;go_wp2_with fail;go_call HF.out as e w1 ⟨rfl,k1,f1⟩;have F1:=hF0.trans f1;have hb:=(B0 _).fr f1 nb;have d0:=hb.cell 0;have d1:=hb.cell 1;simp only[gE]at d0 d1;clear f1 hb;go_wp2_with fail;go_call HG.out _ k1 as e w2 ⟨rfl,k2,f2⟩;have F2:=F1.trans f2;clear f2;go_wp2;go_ret2;exact⟨rfl,k2,F2⟩
theorem zwf(gI:WB w0 q S L u E B W)(name:Nat)(lab:List Nat)(hs:Nat)(hn:name<4294967296)(hl:∀b∈lab,b<256)(hlen:lab.length≤9223372036854775807)(hh:hs<4294967296):∀w,IsH w q u→Calls prog 311 #[q,.int .u32 name,.string (za0 lab),.int .u32 hs] w (zR (match fndT u.sl (hmE u E) u.s (hs %u.s) (isNd E B name lab hs)with|some i=> .tuple #[(u.sl i),true] |none=> .tuple #[(0:Int),false]) fun w'=>IsH w' q u∧Fr q.blocks w w'):=by
 intro w h;have g:=gI.ix;generalize hsl:za0 lab=sl;obtain⟨A0,hA0⟩:∃A,A=w.alloc (.cells #[q] 26):=⟨_,rfl⟩;obtain⟨A1,hA1⟩:∃A,A=A0.alloc (.cells #[.int .u32 name] 120):=⟨_,rfl⟩;obtain⟨A2,hA2⟩:∃A,A=A1.alloc (.cells #[.string sl] 9):=⟨_,rfl⟩;obtain⟨A3,hA3⟩:∃A,A=A2.alloc (.cells #[.int .u32 hs] 120):=⟨_,rfl⟩;have z0:A0.heap.size=w.heap.size+1:=by rw[hA0];simp
 have z1:A1.heap.size=w.heap.size+1+1:=by rw[hA1];simp[z0]
 have z2:A2.heap.size=w.heap.size+1+1+1:=by rw[hA2];simp[z1]
 have kA:Blk A3 w.heap.size 26 #[q] :=by rw[hA3,hA2,hA1,hA0];exact(((Blk.new w _ _).alloc _).alloc _).alloc _
 have kB:Blk A3 (w.heap.size+1) 120 #[.int .u32 name] :=by rw[hA3,hA2,hA1,←z0];exact((Blk.new A0 _ _).alloc _).alloc _
 have kC:Blk A3 (w.heap.size+1+1) 9 #[.string sl] :=by rw[hA3,hA2,←z1];exact(Blk.new A1 _ _).alloc _
 have kD:Blk A3 (w.heap.size+1+1+1) 120 #[.int .u32 hs] :=by rw[hA3,←z2];exact Blk.new A2 _ _
 have fA:Fr q.blocks w A3:=by rw[hA3,hA2,hA1,hA0];exact((((Fr.refl _ w).alloc _).alloc _).alloc _).alloc _
 have hA:IsH A3 q u:=by rw[hA3,hA2,hA1,hA0];exact(((h.alloc _).alloc _).alloc _).alloc _
 have hlt:=h.m.lt;have nq:∀k,w.heap.size≤k→k∉q.blocks:=fun k hk hm=>by have:=hlt _ hm;omega
 have HOF:=hid (fun W (hW:IsH W q u)=>(show Calls prog 75 #[q] W (zN (.agg #[q,u.s]) W)from iof hW.m))
 have HFO:=hid (fun W (hW:IsH W q u) (hf:Fr q.blocks A3 W)=>zwe hW g (isNd E B name lab hs) hs w.heap.size (w.heap.size+1) (w.heap.size+1+1) (w.heap.size+1+1+1) hh (fun V hV hf2 y hy=>by
  have hF:=hf.trans hf2;exact zwd gI hV hy name hs _ _ _ _ lab hl hlen (nq _ (by omega)) (nq _ (by omega)) (nq _ (by omega)) (nq _ (by omega)) (kA.fr hF (nq _ (by omega))) (kB.fr hF (nq _ (by omega))) (by rw[hsl];exact kC.fr hF (nq _ (by omega))) (kD.fr hF (nq _ (by omega)))))
 have DC:=hid (fun V (hV:Fr q.blocks A3 V)=>And.intro (show V.cell? ⟨w.heap.size,0,none⟩=some (.pointer (some ⟨q.m,0,none⟩))from(kA.fr hV (nq _ (by omega))).cell 0) (show V.cell? ⟨w.heap.size+1+1+1,0,none⟩=some (.int .u32 hs)from(kD.fr hV (nq _ (by omega))).cell 0));have H0:=hA.drew;have hY:=DC.out _ (Fr.refl _ A3).drew;have HA3:((((w.alloc (.cells #[q] 26)).alloc (.cells #[.int .u32 name] 120)).alloc (.cells #[.string sl] 9)).alloc (.cells #[.int .u32 hs] 120))=A3:=by rw[hA3,hA2,hA1,hA0]
 obtain⟨RV,hRV⟩:∃RV:Value×Value,(match fndT u.sl (hmE u E) u.s (hs %u.s) (isNd E B name lab hs)with|some i=>Value.tuple #[(u.sl i),true] |none=> .tuple #[(0:Int),false])= .tuple #[RV.1,RV.2] :=by
  cases fndT u.sl (hmE u E) u.s (hs %u.s) (isNd E B name lab hs)with
  |some i=>exact⟨(_,_),rfl⟩
  |none=>exact⟨(_,_),rfl⟩
 rw[hRV]at HFO⊢;obtain⟨r1,r2⟩:=RV;generalize u.s=s at*;clear h g gI hA0 hA1 hA2 hA3 z0 z1 z2 kA kB kC kD hA hlt hRV;go_in;go_wp2_with fail;try rw[HA3]
 refine wp_region_held_drew (S:=fun W=>W.cell? ⟨w.heap.size,0,none⟩=some (.pointer (some ⟨q.m,0,none⟩))∧W.cell? ⟨w.heap.size+1+1+1,0,none⟩=some (.int .u32 hs)) (by kernel_rfl) (hY) (fun yH=> ?_);refine tkZ 0 ?_;refine tkZ 2 ?_;refine tkZ 3 ?_;refine tkZ 4 ?_;refine tkC 1 fun K hK=> ?_;go_simp;go_call HOF.out _ H0 as e w1 ⟨rfl,f1⟩;have K1:=H0.fr0 f1;have F1:=(Fr.refl q.blocks A3).drew.trans f1.nil;have hY:=DC.out _ F1;clear f1;go_wp2_with fail;refine hK.out _ _ _ hY fun yH=> ?_;clear hK K;refine tkC 5 fun K hK=> ?_;go_simp;go_call HFO.out _ K1 F1 as e w2 ⟨rfl,k2,f2⟩;have F2:=F1.trans f2;have hY:=DC.out _ F2;clear f2;go_wp2_with fail;refine hK.out _ _ _ hY fun yH=> ?_;clear hK K;refine tkZ 6 ?_;refine tkZ 7 ?_;refine tkZ 8 ?_;refine tkZ 9 ?_;refine wpAnyH_done (by kernel_rfl) ?_ _;try simp only[gP,List.getElem_cons_zero]
 go_wp2;go_ret2;exact⟨rfl,k2,fA.trans F2⟩
end
structure Fx(u:TM)(S:SS)(L:Nat→Prop)(x c:Nat):Prop where
 lv:Lv 7 S x (csz c)
 cl:1≤c∧c≤9
 no: ¬L x
 z:ByOn u x (csz c) (fun _=>0)
section
variable{w0 W:World}{q:MH}{S S':SS}{x y n c:Nat}{u v:TM}{L:Nat→Prop}{E:Nat→HB}{B:Nat→List Nat}{b:List Nat}
def TkW(w0:World)(q:MH)(S:SS)(L:Nat→Prop)(u:TM)(E:Nat→HB)(B:Nat→List Nat)(c x r:Nat)(w':World):Prop:=
 (r=5∧x=0∧hd1 (lst 7 S.inn 0)=0∧ ∃v,Sla u v∧WB w0 q S L v E B w')∨(r=0∧ ∃S' v,Sla u v∧WB w0 q S' L v E B w'∧Fx v S' L x c∧zp7 7 S S' x (csz c))
theorem WB.cz(g:WB w0 q S L u E B W):zdw u.a u.s=zdw 7 224:=by rw[g.a,g.s]
theorem zwg(g:WB w0 q S L u E B W)(c:Nat)(hc:1≤c∧c≤9):Calls prog 56 #[q,c] W fun e w'=>∃x r:Nat,e= .returned (.tuple #[x,r])∧Fr q.blocks W w'∧TkW w0 q S L u E B c x r w':=by
 have hcl:=zpt g.h g.sl c;have hp:=zp8 g.sl g.h.m.ok c;have hfu:=zqe (b:=zdv 7 224) g.fl (c:Int);rw[g.a,g.s]at hcl hp;rw[znn c hc.2]at hp;refine hcl.mono fun e w' ⟨he,v,k1,k2,k3,k4,k5,k6⟩=>⟨_,_,he,k6,?_⟩;rw[znn c hc.2]at k5;by_cases h0:(zpf 7 (zdv 7 224) S c).2.1=0
 ·obtain⟨-,-,tl⟩:=hp h0
  refine .inr ⟨h0,_,v,k3,g.keep k1 k6 k2 hfu k3.a k3.s k3.sl k3.ft (fun y hy=>⟨hy,fun m hm=>⟨(tl.old y m hm).1,fun k hk=> ?_⟩⟩) (fun i hi=>g.ix.sl i (by rw[g.s];exact hi)),⟨tl.new,hc,fun hL=> ?_,k5 h0⟩,tl⟩
  ·obtain⟨i,hi,hyi,rfl⟩:=hm
   exact k4 i (by rw[g.a];exact hi) y hyi (fun _=>(tl.old y _ ⟨i,hi,hyi,rfl⟩).2) k hk
  ·obtain⟨m,hm⟩:=g.lv hL
   exact(tl.old _ m hm).2 rfl
 ·have hS:=zp9 7 (zdv 7 224) S c h0
  rw[hS]at k2
  have h5:(zpf 7 (zdv 7 224) S c).2.1=5∧(zpf 7 (zdv 7 224) S c).1=0∧hd1 (lst 7 S.inn 0)=0:=by
   unfold zpf at h0⊢;have hz:cszZ (c:Int)≠0:=by rw[znn c hc.2];have:=zmc c hc.1 hc.2;omega
   rw[if_neg hz]at h0⊢;by_cases a1:0<hd1 (lst 7 S.inn (c:Int).toNat)
   ·rw[if_pos a1]at h0
    exact absurd rfl h0
   ·rw[if_neg a1]at h0⊢
    by_cases a2:0<hd1 (lst 7 S.inn 0)
    ·rw[if_pos a2]at h0
     exact absurd rfl h0
    ·rw[if_neg a2]
     exact⟨rfl,rfl,by omega⟩
  refine .inl ⟨h5.1,h5.2.1,h5.2.2,v,k3,g.keep k1 k6 k2 g.fl k3.a k3.s k3.sl k3.ft (fun y hy=>⟨hy,fun m hm=>⟨hm,fun k hk=> ?_⟩⟩) (fun i hi=>g.ix.sl i (by rw[g.s];exact hi))⟩;obtain⟨i,hi,hyi,rfl⟩:=hm;exact k4 i (by rw[g.a];exact hi) y hyi (fun e=>absurd e h0) k hk
theorem zwh(g:WB w0 q S L u E B W)(hx:Lv 7 S x n)(hsl:∀i,i<224→u.sl i≠x):Calls prog 58 #[q,x] W (zR (0:Int) fun w'=>Fr q.blocks W w'∧∃S' v,Sla u v∧WB w0 q S' (fun y=>L y∧y≠x) v E B w'∧∀y m,Lv 7 S' y m↔Lv 7 S y m∧y≠x):=by
 have hcl:=zp2 g.h g.sl x;have hp:=zqb g.sl g.h.m.ok (g.lv7 hx);have hfu:=zqf (b:=zdv 7 224) g.fl (x:Int);rw[g.a,g.s]at hcl hp;obtain⟨S',e1,hS'⟩:=hp;rw[e1]at hcl hfu;refine hcl.mono fun e w' ⟨he,v,k1,k2,k3,k4,k6⟩=>⟨he,k6,S',v,k3,g.keep k1 k6 k2 hfu k3.a k3.s k3.sl k3.ft (fun y ⟨hy,hne⟩=>⟨hy,fun m hm=>⟨(hS' y m).2 ⟨hm,hne⟩,fun k hk=> ?_⟩⟩) (fun i hi=> ?_),hS'⟩
 ·obtain⟨i,hi,hyi,rfl⟩:=hm
  exact k4 i (by rw[g.a];exact hi) y hyi (fun _ e=>hne (by exact_mod_cast e)) k hk
 ·rcases g.ix.sl i (by rw[g.s];exact hi)with h|h
  ·exact .inl h
  ·exact .inr ⟨h,hsl i hi⟩
theorem zwi:∀{l m:List Nat},l.Nodup→(∀x∈l,x∈m)→l.length≤m.length
 | [],_,_,_=>Nat.zero_le _
 |a::l,m,hn,hs=>by
  obtain⟨h1,h2⟩:=List.nodup_cons.1 hn;have ha:=hs a List.mem_cons_self
  have:=zwi (l:=l) (m:=m.erase a) h2 (fun x hx=>by
   have hne:x≠a:=fun e=>h1 (e▸hx);exact(List.mem_erase_of_ne hne).2 (hs x (List.mem_cons_of_mem _ hx)))
  have hl:=List.length_erase_of_mem ha;have h0:=List.length_pos_of_mem ha;rw[List.length_cons];omega
def zwj(S:SS):Nat→List Nat
 |0=> []
 |i+1=>zwj S i++S.lv i
theorem zwk(S:SS):∀{k i x:Nat},i<k→x∈S.lv i→x∈zwj S k
 |k+1,i,x,hi,hx=>by
  unfold zwj;rw[List.mem_append];rcases Nat.lt_or_ge i k with h|h
  ·exact .inl (zwk S h hx)
  ·obtain rfl:i=k:=by omega
   exact .inr hx
theorem zwl(hs:SlI u S):∀k,k≤u.a→(zwj S k).length≤32*k
 |0,_=>Nat.le_refl _
 |k+1,hk=>by
  have h1:=zwl hs k (by omega);have h2:=hs.each k (by omega)
  have h3:(S.lv k).length≤32:=by
   by_cases h0:S.cls k=0
   ·rw[(h2.z h0).2.1];simp
   ·have:=h2.len h0
    have:=zmc (S.cls k) (by omega) h2.c9;omega
  unfold zwj;rw[List.length_append];omega
theorem WB.room(g:WB w0 q S L u E B W)(hx:LvP S x)(hn:¬InT 224 u.sl x):∃s,s<224∧u.sl s=0:=by
 rcases Classical.em (∃s,s<224∧u.sl s=0)with h|h
 ·exact h
 ·exfalso
  have h0:∀s,s<224→u.sl s≠0:=fun s hs e=>h ⟨s,hs,e⟩
  have hnd:(x::(List.range 224).map u.sl).Nodup:=by
   rw[List.nodup_cons];refine⟨fun hm=> ?_,?_⟩
   ·obtain⟨s,hs,e⟩:=List.mem_map.1 hm
    exact hn ⟨s,List.mem_range.1 hs,e⟩
   ·rw[List.Nodup,List.pairwise_map]
    exact List.Pairwise.imp_of_mem (fun{a b} ha hb hne e=>hne (g.rh.nd a b (List.mem_range.1 ha) (List.mem_range.1 hb) (h0 a (List.mem_range.1 ha)) e)) (List.nodup_range (n:=224))
  have hsub:=zwi (m:=zwj S 7) hnd (fun y hy=>by
   have hl:LvP S y:=by
    rcases List.mem_cons.1 hy with e|hy
    ·rw[e];exact hx
    ·obtain⟨s,hs,e⟩:=List.mem_map.1 hy
     have hs':=List.mem_range.1 hs;rw[←e];exact g.lv ((g.ix.sl s (by rw[g.s];exact hs')).resolve_left (h0 s hs'))
   obtain⟨m,i,hi,hyi,-⟩:=hl;exact zwk S hi hyi)
  have hlen:=zwl g.sl 7 (by rw[g.a];exact Nat.le_refl _);simp at hsub;omega
theorem WB.ne0(g:WB w0 q S L u E B W)(hx:L x):x≠0∧x<1048576:=by
 have:=(g.ix.e x hx).pos g.h.m.ok;omega
theorem zwm(g:WB w0 q S L u E B W)(hx:L x)(hn:¬InT 224 u.sl x):Calls prog 113 #[q,x] W (zR (0:Int) fun w'=>Fr q.blocks W w'∧∃T,WB w0 q S L (u.wsl T) E B w'∧∀y,y≠0→(InT 224 T y↔y=x∨InT 224 u.sl y)):=by
 have h0:=g.ne0 hx;obtain⟨f1,f2⟩:=g.rh.found h0.1;have hm0:hmE u E x<224:=g.rh.r.hm x;have hs:=g.s;cases hp:fndT u.sl (hmE u E) 224 (hmE u E x) (fun z=>z==x)with
 |some i=>exact absurd ⟨i,f1 i hp⟩ hn
 |none=>
  have hno:=f2 hp;have hp':fndT u.sl (hmE u E) u.s ((E x).hash %u.s) (fun z=>z==x)=none:=by rw[hs];exact hs▸hp
  cases hg:gapT u.sl 224 (hmE u E x)with
  |none=>
   obtain⟨s,hsl,hz⟩:=g.room (g.lv hx) hn;obtain⟨j,hj,rfl⟩:=zt8 (n:=224) (hmE u E x) hsl;exact absurd hz (zud 224 _ u.sl 224 0 hg j (Nat.zero_le _) (by omega))
  |some g0=>
   have hg':gapT u.sl u.s ((E x).hash %u.s)=some g0:=by rw[hs];exact hs▸hg
   obtain⟨k,gg,ip,hk,hgg⟩:=zug (T:=u.sl) (H:=hmE u E) (n:=224) (by decide) hm0 hg;have Q:InsQ 224 u.sl (hmE u E) (hmE u E x) k gg x:=⟨g.rh.r,ip,hk,hgg,rfl,h0.1,hno⟩;have ip':InsP u.sl (hmE u E) u.s ((E x).hash %u.s) k gg:=by rw[hs];exact hs▸ip
   refine(zt3 g.h g.ix (g.ix.e x hx) rfl hp' hg' ip').mono fun e w' ⟨he,k1,k2⟩=>⟨he,k2,insX u.sl 224 (hmE u E x+k) gg x,?_,fun y hy=>Q.inT hy⟩
   have e1:up (shS u.s ((E x).hash %u.s+k) gg u.sl) (((E x).hash %u.s+k) %u.s) x=insX u.sl 224 (hmE u E x+k) gg x:=by
    unfold insX hmE;rw[hs]
   rw[e1]at k1;exact g.slots k1 k2 (zuh Q (fun i hi=>g.ix.sl i (by rw[hs];exact hi)) hx) (Q.rz g.rh)
theorem zwn(g:WB w0 q S L u E B W)(hx:L x)(hin:InT 224 u.sl x):Calls prog 85 #[q,x] W (zR (0:Int) fun w'=>Fr q.blocks W w'∧∃T,WB w0 q S L (u.wsl T) E B w'∧∀y,y≠0→(InT 224 T y↔InT 224 u.sl y∧y≠x)):=by
 have h0:=g.ne0 hx;obtain⟨f1,f2⟩:=g.rh.found h0.1;have hs:=g.s;cases hp:fndT u.sl (hmE u E) 224 (hmE u E x) (fun z=>z==x)with
 |some i=>
  obtain⟨hi,e1⟩:=f1 i hp;have:=idel (i0:=i) g.h g.ix (g.ix.e x hx) (by rw[hs];exact hi) (by rw[hs];exact hs▸hp);obtain⟨m,P⟩:=zuq 224 (hmE u E) 223 i u.sl (by decide);have him:i %224=i:=Nat.mod_eq_of_lt hi;refine this.mono fun e w' ⟨he,k1,k2⟩=>⟨he,k2,dlS (hmE u E) 224 223 i u.sl,?_,fun y hy=>by rw[DlP.inT (n:=224) P g.rh hy,him,e1]⟩;have e2:dlS (hmE u E) u.s (u.s-1) i u.sl=dlS (hmE u E) 224 223 i u.sl:=by rw[hs]
  rw[e2]at k1;refine g.slots k1 k2 (fun j hj=> ?_) (DlP.rz (n:=224) P g.rh (by rw[him,e1];exact h0.1));by_cases z:dlS (hmE u E) 224 223 i u.sl j=0
  ·exact .inl z
  ·obtain⟨⟨s,hsl,e3⟩,_⟩:=(DlP.inT (n:=224) P g.rh z).1 ⟨j,hj,rfl⟩
   rw[←e3];exact .inr ((g.ix.sl s (by rw[hs];exact hsl)).resolve_left (by rw[e3];exact z))
 |none=>
  obtain⟨s,hs2,e⟩:=hin;exact absurd e (f2 hp s hs2)
end
section
variable{w0 W:World}{q:MH}{S:SS}{x y n c:Nat}{u v:TM}{L:Nat→Prop}{E:Nat→HB}{B:Nat→List Nat}{X:HB}{b:List Nat}
theorem zwo(g:WB w0 q S L u E B W)(hlv:Lv 7 S x n)(hno:¬L x)(hX:X.Ok)(hr:X.right=true)(ht:X.tag=1∨X.tag=2):Calls prog 88 #[q,x,X.val] W (zR (0:Int) fun w'=>Fr q.blocks W w'∧∃v,WB w0 q S L v E B w'∧BlkE v x X∧v.sl=u.sl∧v.rt=u.rt):=by
 have ok:=g.h.m.ok;have htn:X.tag=(X.tag.toNat:Int):=by rcases ht with e|e<;>rw[e] <;>rfl
 have htg:X.tag.toNat≤2:=by rcases ht with e|e<;>rw[e] <;>decide
 have ht0:X.tag.toNat≠0:=by rcases ht with e|e<;>rw[e] <;>decide
 have hz:=zlt X.tag.toNat htg;obtain⟨b1,b2,b3,b4,b5,b6,b7⟩:=g.at_ hlv;have hh:HeadTo u x X.tag.toNat 5 X.num 0:=⟨htg,b1,by omega,by omega,by decide,fun g g1 g2=>b7 g g1 (by omega),fun f hf=>absurd hf (Nat.not_lt_zero _),fun f hf=>absurd hf (Nat.not_lt_zero _)⟩;have hn:∀f,f<12→(wh X.tag.toNat f).2≠0→X.num f<256^(wh X.tag.toNat f).2:=fun f hf h0=>zlb X hX X.tag.toNat (by omega) htn hr f hf h0;have as_:=zl5 u x X.tag.toNat X.num 12;obtain⟨r1,r2,r3,r4,r5⟩:=zux u x X.tag.toNat X.num 12;have hE:=zl7 ok hh hn 12 (Nat.le_refl _);have ho:=(zuw ok b1 htg X.num 12 (Nat.le_refl _)).wide (y:=x) (m:=n) (Nat.le_refl _) (by omega);refine(zl9 W q u g.h x X.tag.toNat 5 X.num hh X hX hr htn (.inr ⟨rfl,ht0⟩)).mono fun e w' ⟨he,k1,k2⟩=>⟨he,k2,_,g.one k1 k2 hlv hno as_.1 as_.2 r5 r4 r1 r2 r3 ho,⟨hE,hX,hr,ht⟩,r5,r1⟩
theorem zwp(g:WB w0 q S L u E B W)(hlv:Lv 7 S x n)(hno:¬L x)(hX:BlkE u x X)(ht:X.tag=2){a:Option Addr}{c:Nat}{l:List Nat}(hb:Byt W a l)(hg:∀g o,a=some ⟨g,o,none⟩→g≠q.pw)(hl:16+l.length≤n):Calls prog 112 #[q,((x:Int)+16:),.slice a l.length c,(5:Int)] W (zR true fun w'=>Fr q.blocks W w'∧∃v,WB w0 q S L v E B w'∧BlkE v x X∧v.sl=u.sl∧v.rt=u.rt∧ByOn v (x+16) l.length (fun j=>l[j]?.getD 0)):=by
 have ok:=g.h.m.ok;obtain⟨b1,b2,b3,b4,b5,b6,b7⟩:=g.at_ hlv
 have hf:∀j,j<l.length→(fun j=>l[j]?.getD 0) j<256:=fun j hj=>by
  show l[j]?.getD 0<256;rw[List.getElem?_eq_getElem hj];exact hb.byte _ (List.getElem_mem hj)
 have ho:=(zny ok (x+16) l.length (fun j=>l[j]?.getD 0) hf (by omega)).wide (y:=x) (m:=n) (by omega) (by omega);have hon:=znz ok (x+16) l.length (fun j=>l[j]?.getD 0) hf (by omega);refine(zn5 g.h.m (x+16) ((l.length+3)/4*4) 5 c a l hb hg (by omega) (by omega) (fun g g1 g2=>b7 g (by omega) (by omega)) (by omega) (by omega) (by omega) (by decide) _ _ (by push_cast;rfl) rfl).mono fun e w' ⟨he,k1,k2⟩=>⟨he,k2,_,g.one (g.h.step k1 k2) k2 hlv hno rfl rfl rfl rfl rfl rfl rfl ho,?_,rfl,rfl,hon⟩;have hsz:sz X.tag.toNat=16:=by rw[ht];rfl
 refine hX.keep rfl rfl (fun g g1 g2=>b7 g g1 (by omega)) (by omega) (fun k hk=> ?_);rw[znx ok (x+16) l.length _ hf (by omega),if_neg (by omega)]
theorem zwq(g:WB w0 q S L u E B W)(hx:L x)(ht:(E x).tag=2)(d:Int)(n:Nat)(hn:((E x).refs:Int)+d=n)(hd: -1≤d∧d≤1)(hn4:n<4294967296):Calls prog 241 #[q,x,d] W (zR n fun w'=>Fr q.blocks W w'∧∃v,WB w0 q S L v (up E x {E x with refs:=n}) B w'∧v.sl=u.sl∧v.rt=u.rt):=by
 have hX:=g.ix.e x hx;obtain⟨c,_,_,_,hlv,_⟩:=(g.ct x hx).n;obtain⟨b1,b2,_⟩:=g.at_ hlv;have ho:=zme g.h.m.ok (x+8) 4 n (by omega);refine(zv6 g.h hX ht d n hn hd hn4).mono fun e w' ⟨he,k1,k2⟩=>⟨he,k2,_,g.mod k1 k2 hx rfl rfl rfl rfl rfl rfl rfl (ho.wide (by omega) (by rw[ht];show x+8+4≤x+16;omega)) (hX.refs g.h.m.ok ht n hn4) rfl rfl rfl rfl rfl,rfl,rfl⟩
theorem zwr(g:WB w0 q S L u E B W)(d:Int)(n:Nat)(hn:(u.rt 17:Int)+d=n)(hd: -1≤d∧d≤1)(hn4:n<4294967296):Calls prog 295 #[q,d] W (zR (.tuple #[]) fun w'=>Fr q.blocks W w'∧WB w0 q S L (u.setRt 17 n) E B w'):=by
 refine(zv3 g.h d n hn hd hn4).mono fun e w' ⟨he,k1,k2⟩=>⟨he,k2,g.root 17 n (by decide) k1 k2 (by show n<256^4;omega)⟩
theorem zws{t:TM}(hok:t.Ok){x:Nat}(h4:x %4=0)(hl:x+4≤zdw t.a t.s):zck t.kinds x 4=zf0 t (x/4):=by
 have hlen:=t.kinds_len;have:=zf9 t.a t.s;unfold zck;rw[if_neg (by simp[zb5];omega)];unfold zcj;have e1:((x:Int)/4).toNat=x/4:=by omega
 have e2:(((x:Int)+4+3)/4).toNat=x/4+1:=by omega
 rw[e1,e2]
 have:oneK t.kinds (x/4) (x/4+1)=true:=zch _ _ _ (fun i hi=>by
  obtain rfl:i=0:=by omega
  rfl)
 rw[if_pos this,t.kinds_get _ (by omega)]
theorem zwt(g:WB w0 q S L u E B W)(hf:Fx u S L x c):Calls prog 292 #[q,x,c] W (zR true fun w'=>IsH w' q u∧Fr q.blocks W w'):=by
 obtain⟨b1,b2,b3,b4,b5,b6,b7⟩:=g.at_ hf.lv;obtain⟨i,hi,hxi,hc⟩:=g.lv7 hf.lv;have hb:=zqa g.sl g.h.m.ok hi (.inr hxi)
 have hcls:S.cls i=c:=by
  have hs1:=g.sl.each i hi;have h9:=hs1.c9;have hcl:=hf.cl;have key:∀a,a≤9→∀b,b≤9→csz a=csz b→a=b:=by decide
  exact key _ h9 _ hcl.2 hc.symm
 have HBl:=(show Calls prog 129 #[q,x] W (zR (.tuple #[i,x,true]) fun w'=>IsH w' q u∧Fr q.blocks W w')from by
  have:=zpv g.h g.sl (x:Int);rw[hb]at this;exact this)
 have hk5:zck u.kinds x 4=5:=by
  rw[zws g.h.m.ok (by omega) (by omega)];exact b7 _ (Nat.le_refl _) (by omega)
 have HK:=hid (fun V (hV:IsH V q u)=>(show Calls prog 34 #[q,x,(4:Int)] V (zE (5:Int) V)from by
  have:=zlr V q u.ms hV.m.m x 4;rw[show zck u.ms.ks x 4=5 from hk5]at this;exact this))
 have HG:=hid (fun V (hV:IsH V q u)=>(show Calls prog 104 #[q,i] V (zR (.tuple #[.agg #[c,.int .i64 (u.hd i 1),.int .u32 (u.hd i 2),.int .i64 (u.hd i 3),.int .i64 (u.hd i 4)],(0:Int)]) fun w'=>IsT w' q u∧Fr q.blocks V w')from by
  have:=zjt hV.m i hi;rw[(g.sl.each i hi).h0,hcls]at this;exact this))
 have hat:At u x 4 5 0:=⟨by decide,by omega,by decide,by omega,by decide,fun gg g1 g2=>b7 gg (by omega) (by omega),fun j hj=>by rw[hf.z j (by omega),nb_0]⟩;have HL:=hid (fun V (hV:IsH V q u)=>(show Calls prog 109 #[q,x,(4:Int),(5:Int)] V (zR (.int .u64 0) fun w'=>IsT w' q u∧Fr q.blocks V w')from zgu hV.m hat));generalize u.hd i 1=h1 at*;generalize u.hd i 2=h2 at*;generalize u.hd i 3=h3 at*;generalize u.hd i 4=h4 at*;clear hat hk5 hb hcls hxi hc b1 b2 b3 b4 b5 b6 b7 hf g;go_in;go_wp2_with fail;go_call HBl as e w1 ⟨rfl,k1,f1⟩;clear HBl;go_wp2_with fail;go_call HK.out _ k1 as e w2 ⟨rfl,rfl⟩;go_wp2_with fail;go_call HG.out _ k1 as e w3 ⟨rfl,k3,f3⟩;have K3:=(k1.step k3 f3).alloc;have F3:=(f1.trans f3).alloc;clear k3 f3;go_wp2_with fail;go_call HL.out _ (K3 _) as e w4 ⟨rfl,k4,f4⟩;have K4:=(K3 _).step k4 f4;have F4:=(F3 _).trans f4;clear k4 f4;go_wp2;go_ret;exact⟨rfl,K4,F4⟩
end
theorem zwu(c:Nat):lowB (lowB c)=lowB c:=by
 unfold lowB;split
 ·rfl
 ·split<;>omega
theorem zwv(c:Nat):labB (lowB c)=labB c:=by
 unfold lowB;split
 ·rfl
 ·next h=>
  have h1:labB c=true:=by unfold labB;simp;omega
  have h2:labB (c+32)=true:=by unfold labB;simp;omega
  rw[h1,h2]
theorem zww(l:List Nat):(l.map lowB).map lowB=l.map lowB:=by
 rw[List.map_map];exact List.map_congr_left fun c _=>zwu c
theorem zwx(l:List Nat):zuz (l.map lowB)=zuz l:=by
 unfold zuz;rw[List.length_map,List.all_map];congr 1;congr 1;funext c;exact zwv c
theorem zwy{l:List Nat}(h:zuz l=true):1≤l.length∧l.length≤63:=by
 unfold zuz at h;simp only[Bool.and_eq_true,decide_eq_true_eq]at h;exact h.1
theorem zwz{l:List Nat}(h:∀b∈l,b<256):∀b∈l.map lowB,b<256:=fun b hb=>by
 obtain⟨x,hx,rfl⟩:=List.mem_map.1 hb;exact zu6 (h x hx)
def hsh(E:Nat→HB)(y:Nat):Nat:=if y=0 then 2166136261 else(E y).hash
structure NI(w0:World)(q:MH)(S:SS)(L:Nat→Prop)(l:List Nat)(u:TM)(E:Nat→HB)(B:Nat→List Nat)(W:World):Prop where
 wb:WB w0 q S L u E B W
 nd:l.Nodup
 mem: ∀x,x∈l↔L x∧(E x).tag=2
 cnt:u.rt 17=l.length
 inx: ∀x,x≠0→(InT 224 u.sl x↔L x)
 up: ∀x∈l,(E x).name=0∨(E x).name∈l
 hs: ∀x∈l,(E x).hash=mixL (hsh E (E x).name) (B x)
 lb: ∀x∈l,zuz (B x)=true∧(B x).map lowB=B x
 one: ∀x∈l,∀y∈l,(E x).name=(E y).name→B x=B y→x=y
def fndN(l:List Nat)(E:Nat→HB)(B:Nat→List Nat)(up:Nat)(s:List Nat):Option Nat:=l.find? fun z=>(E z).name==up&&B z==s
def ansN:Option Nat→Value
 |some z=> .tuple #[z,true]
 |none=> .tuple #[(0:Int),false]
section
variable{w0 W W':World}{q:MH}{S:SS}{x y:Nat}{u:TM}{L:Nat→Prop}{l:List Nat}{E:Nat→HB}{B:Nat→List Nat}{b:List Nat}
theorem NI.fr0(g:NI w0 q S L l u E B W)(hf:Fr [] W W'):NI w0 q S L l u E B W':={g with wb:=g.wb.fr0 hf}
theorem NI.same(g:NI w0 q S L l u E B W)(h:IsH W' q u)(hf:Fr q.blocks W W'):NI w0 q S L l u E B W':={g with wb:=g.wb.same h hf}
theorem NI.lt(g:NI w0 q S L l u E B W)(hx:x∈l):x≠0∧x<1048576:=g.wb.ne0 ((g.mem x).1 hx).1
theorem NI.hlt(g:NI w0 q S L l u E B W)(y:Nat)(hy:y=0∨y∈l):hsh E y<4294967296:=by
 unfold hsh;split
 ·decide
 ·next h=>exact(g.wb.ix.e y ((g.mem y).1 (hy.resolve_left h)).1).ok.hash
theorem NI.find(g:NI w0 q S L l u E B W)(up:Nat)(s:List Nat):(fndT u.sl (hmE u E) 224 (mixL (hsh E up) s %224) (isNd E B up s (mixL (hsh E up) s))).map u.sl=fndN l E B up s:=by
 have hmem:∀z,z∈l→(E z).name=up→B z=s→isNd E B up s (mixL (hsh E up) s) z=true:=fun z hz hn hb=>by
  have h1:=g.hs z hz;rw[hn,hb]at h1;unfold isNd;rw[((g.mem z).1 hz).2,hn,hb,h1];simp
 cases hf:fndT u.sl (hmE u E) 224 (mixL (hsh E up) s %224) (isNd E B up s (mixL (hsh E up) s))with
 |some i=>
  obtain⟨h1,h2,h3⟩:=zup _ (by decide) 224 0 i hf;have hL:L (u.sl i):=(g.inx _ h3).1 ⟨i,h1,rfl⟩;unfold isNd at h2;simp only[Bool.and_eq_true,beq_iff_eq]at h2;obtain⟨⟨⟨t1,t2⟩,t3⟩,t4⟩:=h2;have hz:u.sl i∈l:=(g.mem _).2 ⟨hL,t1⟩
  have hfn:fndN l E B up s=some (u.sl i):=by
   unfold fndN;cases hc:l.find? (fun z=>(E z).name==up&&B z==s)with
   |none=>
    have:=List.find?_eq_none.1 hc _ hz;simp[t2,t3]at this
   |some z=>
    have hp:=List.find?_some hc;have hm:=List.mem_of_find?_eq_some hc;simp only[Bool.and_eq_true,beq_iff_eq]at hp;rw[g.one z hm _ hz (hp.1.trans t2.symm) (hp.2.trans t3.symm)]
  rw[hfn];rfl
 |none=>
  have hfn:fndN l E B up s=none:=by
   unfold fndN;rw[List.find?_eq_none];intro z hz hp;simp only[Bool.and_eq_true,beq_iff_eq]at hp;obtain⟨i,hi,e⟩:=(g.inx z (g.lt hz).1).2 ((g.mem z).1 hz).1;have hP:=hmem z hz hp.1 hp.2;obtain⟨j,_,e2,_⟩:=g.wb.rh.r.finds (isNd E B up s (mixL (hsh E up) s)) hi (by rw[e];exact(g.lt hz).1) (by rw[e];exact hP)
   have hh:hmE u E (u.sl i)=mixL (hsh E up) s %224:=by
    rw[e];unfold hmE;rw[g.wb.s];have h1:=g.hs z hz;rw[hp.1,hp.2]at h1;rw[h1]
   rw[hh,hf]at e2;cases e2
  rw[hfn];rfl
theorem zw0(g:NI w0 q S L l u E B W)(up:Nat)(hup:up=0∨up∈l)(lb:List Nat)(hl:∀b∈lb,b<256):Calls prog 286 #[q,up,.string (za0 lb)] W (zR (if zuz lb then ansN (fndN l E B up (lb.map lowB))else ansN none) fun w'=>IsH w' q u∧Fr q.blocks W w'):=by
 have hm:=zvw g.wb.h.m
 have hup2:up<1048576:=by
  rcases hup with e|e
  ·omega
  ·exact(g.lt e).2
 have HPa:=hid (fun V (hV:IsH V q u)=>(show Calls prog 291 #[q,up] V (zR true fun w'=>IsH w' q u∧Fr q.blocks V w')from by
  rcases Nat.eq_zero_or_pos up with e|hp
  ·subst e;exact zvy hV
  ·have hm:=hup.resolve_left (by omega)
   have:=zvx hV (g.wb.ix.e up ((g.mem up).1 hm).1) (by omega);rw[((g.mem up).1 hm).2]at this;exact this))
 have HHs:=hid (fun V (hV:IsH V q u)=>(show Calls prog 148 #[q,up] V (zR (.int .u32 (hsh E up)) fun w'=>IsH w' q u∧Fr q.blocks V w')from by
  unfold hsh;rcases Nat.eq_zero_or_pos up with e|hp
  ·subst e
   rw[if_pos rfl];exact(zv0 V _).mono fun e w' ⟨h1,h2⟩=>⟨h1,by rw[h2];exact hV,by rw[h2];exact Fr.refl _ _⟩
  ·have hm:=hup.resolve_left (by omega)
   rw[if_neg (by omega)];exact zvz hV (g.wb.ix.e up ((g.mem up).1 hm).1) (by omega) ((g.mem up).1 hm).2))
 have HLb:=hid (fun V=>zu5 V lb hl);have H0:=g.wb.h;have wu:IntKind.u32.wrap (up:Int)=(up:Int):=by show(up:Int) %4294967296=up;omega
 by_cases hk:zuz lb=true
 ·have hlen:=zwy hk
  rw[if_pos hk];rw[if_pos hk]at HLb;have HLo:=hid (fun V=>zve V lb hl (by omega));have HMx:=hid (fun V=>xlab V (hsh E up) (lb.map lowB) (zwz hl) (by rw[List.length_map];omega));rw[zww]at HMx
  have HNd:=hid (fun V (hV:IsH V q u)=>(show Calls prog 311 #[q,.int .u32 up,.string (za0 (lb.map lowB)),.int .u32 (mixL (hsh E up) (lb.map lowB))] V (zR (ansN (fndN l E B up (lb.map lowB))) fun w'=>IsH w' q u∧Fr q.blocks V w')from by
   have hI:=zwf g.wb up (lb.map lowB) (mixL (hsh E up) (lb.map lowB)) (by omega) (zwz hl) (by rw[List.length_map];omega) (zvo _ _) V hV;rw[g.wb.s]at hI;have hfi:=g.find up (lb.map lowB);refine hI.mono fun e w' ⟨he,h1,h2⟩=>⟨?_,h1,h2⟩;rw[he,←hfi];cases fndT u.sl (hmE u E) 224 (mixL (hsh E up) (lb.map lowB) %224) (isNd E B up (lb.map lowB) (mixL (hsh E up) (lb.map lowB)))<;>rfl))
  obtain⟨RV,hRV⟩:∃RV:Value×Value,ansN (fndN l E B up (lb.map lowB))= .tuple #[RV.1,RV.2] :=by
   cases fndN l E B up (lb.map lowB)with
   |some i=>exact⟨(_,_),rfl⟩
   |none=>exact⟨(_,_),rfl⟩
  rw[hRV]at HNd⊢;obtain⟨r1,r2⟩:=RV;generalize mixL (hsh E up) (lb.map lowB)=hx at*;generalize hsh E up=h0 at*;generalize za0 (lb.map lowB)=s2 at*;generalize za0 lb=s at*;clear hRV hk hlen hup hup2 hl g;go_in;go_wp2_with fail;go_call hm as e w1 ⟨rfl,f1⟩;have K1:=H0.fr0 f1;have F1:=f1.nil (S:=q.blocks);clear f1 hm;go_wp2_with fail;go_call HPa.out _ K1 as e w2 ⟨rfl,k2,f2⟩;have F2:=F1.trans f2;clear f2;go_wp2_with fail;go_call HLb.out _ as e w3 ⟨rfl,f3⟩;have K3:=k2.fr0 f3;have F3:=F2.trans f3.nil;clear f3;go_wp2_with fail;go_call HLo.out _ as e w4 ⟨rfl,f4⟩;have K4:=K3.fr0 f4;have F4:=F3.trans f4.nil;clear f4;go_wp2_with fail;go_call HHs.out _ K4 as e w5 ⟨rfl,k5,f5⟩;have F5:=F4.trans f5;clear f5;go_wp2_with fail;go_call HMx.out _ as e w6 ⟨rfl,f6⟩;have K6:=k5.fr0 f6;have F6:=F5.trans f6.nil;clear f6;go_wp2_with fail;go_call HNd.out _ K6 as e w7 ⟨rfl,k7,f7⟩;have F7:=F6.trans f7;clear f7;go_wp2;go_ret2;exact⟨rfl,k7,F7⟩
 ·rw[if_neg hk]
  rw[if_neg hk]at HLb;generalize za0 lb=s at*;clear hk hup hup2 hl g;go_in;go_wp2_with fail;go_call hm as e w1 ⟨rfl,f1⟩;have K1:=H0.fr0 f1;have F1:=f1.nil (S:=q.blocks);clear f1 hm;go_wp2_with fail;go_call HPa.out _ K1 as e w2 ⟨rfl,k2,f2⟩;have F2:=F1.trans f2;clear f2;go_wp2_with fail;go_call HLb.out _ as e w3 ⟨rfl,f3⟩;have K3:=k2.fr0 f3;have F3:=F2.trans f3.nil;clear f3;go_wp2;go_ret2;exact⟨rfl,K3,F3⟩
end
theorem zw1(p:Addr)(w:World):CallsD prog 239 #[.pointer (some p)] .returning w fun e u' w'=>e= .returned (.tuple #[])∧u'= .returning∧w'=w:=by
 refine callsD_of_wpS func239 rfl fun c₀ cs hu=> ?_;apply wpS_seq;apply wpS_region;simp[wpOpsS,go_sem,recoverD,hu,ntmps239,Exit.thenS];rw[show#[Value.pointer (some p)] ++(Array.replicate 13 undef).setIfInBounds 4 Value.nilIface= #[.pointer (some p),undef,undef,undef,undef,.nilIface,undef,undef,undef,undef,undef,undef,undef,undef]from rfl];refine wpS_of_wp ?_;go_wp2_with fail;cases c₀
 simp_all[bodyPostS,results,results239]
theorem zw2(n:Int)(w:World):Calls prog 240 #[true,n] w fun e w'=>e= .returned (.tuple #[])∧w'=w:=by
 go_enter func240,ntmps240;go_wp2_with fail;simp[bodyPost,results,f240]
section
variable{w0 W W':World}{q:MH}{S S':SS}{x y n:Nat}{u v:TM}{L:Nat→Prop}{l:List Nat}{E E':Nat→HB}{B:Nat→List Nat}
theorem WB.own{W0:World}{S0:SS}{L0:Nat→Prop}{u0:TM}{E0:Nat→HB}{B0:Nat→List Nat}(g0:WB w0 q S0 L0 u0 E0 B0 W0)(g:WB w0 q S L u E B W)(i:Nat)(z:Value):WB w0 q S L u E B (W.setCell ⟨W0.heap.size,i,none⟩ z):=by
 have hf:Fr [W0.heap.size] W (W.setCell ⟨W0.heap.size,i,none⟩ z):=(Fr.refl _ W).setCell (.inl (by simp)) _;have h1:=g0.lt;have h3:=g0.h.tabs.size;refine⟨⟨g.h.m.fr hf (fun k hk hm=> ?_) (fun k hk hm=> ?_),g.h.tabs.fr hf (fun k hk=> ?_),g.h.hi⟩,g.sl,g.ix,g.rh,g.ct,g.a,g.s,g.ft,g.f.setCell (.inr g0.f.size) _,g.hq,g.fl⟩
 ·have:=h1 k hk;simp at hm;omega
 ·simp at hm;omega
 ·simp at hk;omega
theorem NI.re(g:NI w0 q S L l u E B W)(g':WB w0 q S' L v E' B W')(he:∀y,(E' y).tag=(E y).tag∧(E' y).name=(E y).name∧(E' y).hash=(E y).hash)(hs:v.sl=u.sl)(hr:v.rt 17=u.rt 17):NI w0 q S' L l v E' B W':=by
 have hh:∀y,hsh E' y=hsh E y:=fun y=>by unfold hsh;rw[(he y).2.2]
 refine⟨g',g.nd,fun x=>by rw[(he x).1];exact g.mem x,by rw[hr];exact g.cnt,fun x hx=>by rw[hs];exact g.inx x hx,fun x hx=>by rw[(he x).2.1];exact g.up x hx,fun x hx=>by rw[(he x).2.2,(he x).2.1,hh];exact g.hs x hx,g.lb,fun x hx y hy=>by rw[(he x).2.1,(he y).2.1];exact g.one x hx y hy⟩
theorem zw3(E:Nat→HB)(x n:Nat)(y:Nat):((up E x {E x with refs:=n}) y).tag=(E y).tag∧((up E x {E x with refs:=n}) y).name=(E y).name∧((up E x {E x with refs:=n}) y).hash=(E y).hash:=by
 unfold up;split
 ·next h=>subst h;exact⟨rfl,rfl,rfl⟩
 ·exact⟨rfl,rfl,rfl⟩
theorem zw4(g:WB w0 q S L u E B W)(hx:L x)(ht:(E x).tag=2)(hr:(E x).refs+1<4294967296):Calls prog 287 #[q,x] W fun e w'=>e= .returned (0:Int)∧Fr q.blocks W w'∧∃v,WB w0 q S L v (up E x {E x with refs:=(E x).refs+1}) B w'∧v.sl=u.sl∧v.rt=u.rt:=by
 have hlt:=g.lt;have H0:=hid (g.fr0 ((Fr.refl [] W).alloc (.cells #[(0:Int)] 56)));have F0:=Lib.hid ((Fr.refl q.blocks W).alloc);have A0:=hid (Blk.new W 56 #[.int .i64 0]);have HNA:=hid (show W.heap.size∉q.blocks from fun hm=>by have:=hlt _ hm;omega);have HM:=hid (zvw H0.h.m)
 have HG:=hid (fun V (hV:WB w0 q S L u E B V)=>(show Calls prog 95 #[q,x] V fun e w'=>e= .returned (.tuple #[.agg #[.int .i64 (E x).tag,.int .i64 (E x).cls,.bool (E x).used,.int .i64 (E x).label,.int .u32 (E x).name,.int .u32 (E x).next,.int .u32 (E x).prev,.int .u32 (E x).refs,.int .u64 (E x).expiry,.int .u16 (E x).typ,.int .i64 (E x).size,.int .u32 (E x).hash],true])∧IsH w' q u∧Fr q.blocks V w' from by
  have:=nget hV.h (hV.ix.e x hx);rw[show((E x).tag==2)=true from by rw[ht];rfl]at this;exact this))
 have HH:=hid (fun V (hV:WB w0 q S L u E B V)=>zwq hV hx ht 1 ((E x).refs+1) (by omega) (by omega) hr);have g0:=hid g;clear g hx ht hr hlt;go_enter_defers func287,ntmps287;go_wp2_with fail;go_call HM.out as e w1 ⟨rfl,f1⟩;have K1:=hid (H0.fr0 f1);have F1:=hid ((F0.out _).trans f1.nil);have A1:=hid (A0.fr f1 (by simp));clear f1 HM H0 F0 A0;go_wp2_with fail;go_call zw2 _ _ as e w1' ⟨rfl,rfl⟩;go_wp2_with fail;go_call HG.out _ K1.out as e w2 ⟨rfl,k2,f2⟩;have K2:=hid (K1.same k2 f2);have F2:=hid (F1.trans f2);have A2:=hid (A1.fr f2 HNA.out);clear k2 f2 HG K1 F1 A1;go_wp2_with fail;go_call zw2 _ _ as e w2' ⟨rfl,rfl⟩;go_wp2_with fail;generalize hYo:(Obj.cells _ 122)=Yo;clear hYo;go_call HH.out _ (K2.out.fr0 ((Fr.refl [] w2).alloc Yo)) as e w3 ⟨rfl,f3,v,k3,k3a,k3b⟩;have K3:=hid k3;have F3:=hid ((F2.alloc Yo).trans f3);have A3:=hid ((A2.alloc Yo).fr f3 HNA.out);have hcl:=A3.cell 0;have hfz:=A3.frozen 0;simp only[List.getElem?_toArray,List.getElem?_cons_zero]at hcl;clear k3 f3 K2 F2 A2 HH;go_wp2_with fail;refine leaves_cons (f:=239) (args:= #[.pointer (some ⟨W.heap.size,0,none⟩)]) (by simp) (by simp[go_sem]) ?_;refine(zw1 _ _).mono ?_;rintro e u' w'' ⟨rfl,rfl,rfl⟩;have hr:=(A3.set 0 (.int .i64 0)).cell 0;simp only[List.setIfInBounds_toArray,List.set_cons_zero,List.getElem?_toArray,List.getElem?_cons_zero]at hr;simp[Leaves,settle,results,results287,go_sem,hr];exact⟨F3.setCell (.inr (Nat.le_refl _)) _,v,WB.own g0.out K3.out 0 _,k3a,k3b⟩
end
def RtQ(u v:TM):Prop:= ∀f,f≠17→(f<3∨12<f)→v.rt f=u.rt f
theorem RtQ.refl(u:TM):RtQ u u:=fun _ _ _=>rfl
theorem RtQ.trans{u v z:TM}(h:RtQ u v)(k:RtQ v z):RtQ u z:=fun f h1 h2=>(k f h1 h2).trans (h f h1 h2)
theorem RtQ.sla{u v:TM}(h:Sla u v):RtQ u v:=fun f _ h2=>h.rt f h2
theorem RtQ.eq{u v:TM}(h:v.rt=u.rt):RtQ u v:=fun f _ _=>by rw[h]
theorem RtQ.set(u:TM)(n:Nat):RtQ u (u.setRt 17 n):=fun f h1 _=>zf2 _ _ h1
def newX(c len up h:Nat):HB:={tag:=2,cls:=(c:Int),used:=false,label:=(len:Int),name:=up,next:=0,prev:=0,refs:=0,expiry:=0,typ:=0,size:=0,hash:=h}
theorem zw5{c len up h:Nat}(hc:c≤9)(hl:len≤63)(hu:up<4294967296)(hh:h<4294967296):(newX c len up h).Ok:=by
 refine⟨⟨?_,?_⟩,⟨?_,?_⟩,⟨?_,?_⟩,hu,?_,?_,?_,?_,?_,⟨?_,?_⟩,hh⟩<;>simp only[newX] <;>omega
theorem zw6{c len up h:Nat}(hc:1≤c∧c≤9)(hl:1≤len∧len≤63):(newX c len up h).right=true:=by
 have e:zkq 2 (c:Int) (len:Int) false=true:=by
  unfold zkq;rw[if_neg (by decide),if_neg (by decide),show decide (1≤(c:Int)∧(c:Int)≤9)=true from decide_eq_true (by omega),show decide (1≤(len:Int)∧(len:Int)≤63)=true from decide_eq_true (by omega)];rfl
 unfold HB.right;rw[show zkq (newX c len up h).tag (newX c len up h).cls (newX c len up h).label (newX c len up h).used=true from e];simp[HB.lackTo,HB.lackAt,newX,HB.num,HB.nums];refine⟨⟨⟨⟨⟨.inr ?_,.inr ?_⟩,.inr ?_⟩,.inr ?_⟩,.inl ?_⟩,.inr ?_⟩<;>decide
section
variable{w0 W W':World}{q:MH}{S:SS}{x y:Nat}{u v:TM}{L:Nat→Prop}{l:List Nat}{E E':Nat→HB}{B:Nat→List Nat}{b:List Nat}
theorem WB.fewL(g:WB w0 q S L u E B W){l:List Nat}(hn:l.Nodup)(hl:∀y∈l,L y):l.length≤224:=by
 have h1:=zwi (m:=zwj S 7) hn (fun y hy=>by
  obtain⟨m,i,hi,hyi,-⟩:=g.lv (hl y hy);exact zwk S hi hyi)
 have h2:=zwl g.sl 7 (by rw[g.a];exact Nat.le_refl _);omega
theorem NI.few(g:NI w0 q S L l u E B W):l.length≤224:=g.wb.fewL g.nd (fun y hy=>((g.mem y).1 hy).1)
theorem zw7{l:List Nat}{E:Nat→HB}{B:Nat→List Nat}{up:Nat}{s:List Nat}(h:fndN l E B up s=none):∀y∈l,(E y).name=up→B y≠s:=by
 intro y hy e1 e2;have:=List.find?_eq_none.1 h y hy;rw[e1,e2]at this;simp at this
structure NewE(E E':Nat→HB)(B B':Nat→List Nat)(x p:Nat)(b:List Nat):Prop where
 tg:(E' x).tag=2
 nm:(E' x).name=p
 hs:(E' x).hash=mixL (hsh E p) b
 rf:(E' x).refs=0
 bx:B' x=b
 ee: ∀y,y≠x→(E' y).tag=(E y).tag∧(E' y).name=(E y).name∧(E' y).hash=(E y).hash
 rr: ∀y,y≠x→y≠0→(E' y).refs=(E y).refs+(if y=p then 1 else 0)
 bb: ∀y,y≠x→B' y=B y
 eq: ∀y,y≠x→y≠p→E' y=E y
theorem NI.new(g:NI w0 q S L l u E B W){B':Nat→List Nat}{p:Nat}(g':WB w0 q S (fun y=>y=x∨L y) v E' B' W')(hx:¬L x)(hx0:x≠0)(hE:NewE E E' B B' x p b)(hr:v.rt 17=l.length+1)
  (hin:∀y,y≠0→(InT 224 v.sl y↔y=x∨InT 224 u.sl y)) (hup:p=0∨p∈l) (hb:zuz b=true) (hbl:b.map lowB=b) (hno:fndN l E B p b=none):
  NI w0 q S (fun y=>y=x∨L y) (l++ [x]) v E' B' W':=by
 have hxl:∀y∈l,y≠x:=fun y hy e=>hx (e▸((g.mem y).1 hy).1);have hxl':x∉l:=fun hm=>hxl x hm rfl
 have hh:∀y,y=0∨y∈l→hsh E' y=hsh E y:=fun y hy=>by
  unfold hsh;rcases hy with e|e
  ·rw[if_pos e,if_pos e]
  ·rw[(hE.ee y (hxl y e)).2.2]
 have hno':=zw7 hno;refine⟨g',?_,fun y=> ?_,?_,fun y hy=> ?_,fun y hy=> ?_,fun y hy=> ?_,fun y hy=> ?_,fun y hy z hz e1 e2=> ?_⟩
 ·rw[List.nodup_append]
  exact⟨g.nd,by simp,fun y hy z hz e=>hxl y hy (by simp at hz;rw[e,hz])⟩
 ·rw[List.mem_append,List.mem_singleton]
  by_cases e:y=x
  ·subst e;exact⟨fun _=>⟨.inl rfl,hE.tg⟩,fun _=> .inr rfl⟩
  ·rw[(hE.ee y e).1]
   constructor
   ·rintro(h|h)
    ·exact⟨.inr ((g.mem y).1 h).1,((g.mem y).1 h).2⟩
    ·exact absurd h e
   ·rintro⟨h|h,h2⟩
    ·exact absurd h e
    ·exact .inl ((g.mem y).2 ⟨h,h2⟩)
 ·rw[hr,List.length_append];rfl
 ·rw[hin y hy,g.inx y hy]
 ·rw[List.mem_append,List.mem_singleton]at hy
  rcases hy with h|h
  ·rw[(hE.ee y (hxl y h)).2.1]
   rcases g.up y h with k|k
   ·exact .inl k
   ·exact .inr (List.mem_append_left _ k)
  ·rw[h,hE.nm]
   rcases hup with k|k
   ·exact .inl k
   ·exact .inr (List.mem_append_left _ k)
 ·rw[List.mem_append,List.mem_singleton]at hy
  rcases hy with h|h
  ·rw[(hE.ee y (hxl y h)).2.2,(hE.ee y (hxl y h)).2.1,hh _ (g.up y h),hE.bb y (hxl y h)]
   exact g.hs y h
  ·rw[h,hE.nm,hE.hs,hE.bx,hh _ hup]
 ·rw[List.mem_append,List.mem_singleton]at hy
  rcases hy with h|h
  ·rw[hE.bb y (hxl y h)];exact g.lb y h
  ·rw[h,hE.bx];exact⟨hb,hbl⟩
 ·rw[List.mem_append,List.mem_singleton]at hy hz
  rcases hy with h|h<;>rcases hz with k|k
  ·rw[(hE.ee y (hxl y h)).2.1,(hE.ee z (hxl z k)).2.1]at e1
   rw[hE.bb y (hxl y h),hE.bb z (hxl z k)]at e2;exact g.one y h z k e1 e2
  ·rw[k,hE.nm,(hE.ee y (hxl y h)).2.1]at e1
   rw[k,hE.bx,hE.bb y (hxl y h)]at e2;exact absurd e2 (hno' y h e1)
  ·rw[h,hE.nm,(hE.ee z (hxl z k)).2.1]at e1
   rw[h,hE.bx,hE.bb z (hxl z k)]at e2;exact absurd e2.symm (hno' z k e1.symm)
  ·rw[h,k]
end
theorem zw8(l:List Nat):(l.map lowB).length=l.length:=by simp
theorem zw9(w:World)(t:TypeId)(l:List Nat)(hl:∀b∈l,b<256)(hlen:l.length≤1048576)(cap:Nat)(z:Nat×Nat):Byt (w.alloc (.cells (bytesRow (za0 l) cap) t z)) (some ⟨w.heap.size,0,none⟩) l:=by
 refine⟨fun i hi=>⟨w.heap.size,0,rfl,?_,by simp[World.alloc,-World.alloc_eq]⟩,hl,by omega⟩;have hi2:i<(za0 l).data.size:=by simpa[za0]using hi
 have hc:=cell_of_row (w.alloc (.cells (bytesRow (za0 l) cap) t z)) w.heap.size i (bytesRow (za0 l) cap) t z (heap_alloc_new w _);rw[Nat.zero_add,hc,bytesRow_at _ _ _ hi2];have h3:=zu2 l hl i (by rw[zu1];exact hi);have h4:((za0 l).data[i]'hi2).toNat=l[i]?.getD 0:=h3;rw[h4]
section
variable{w0 W:World}{q:MH}{S:SS}{x y c p:Nat}{u v:TM}{L:Nat→Prop}{l:List Nat}{E E':Nat→HB}{B:Nat→List Nat}{X:HB}{b:List Nat}
theorem zxa(g:NI w0 q S L l u E B W)(hf:Fx u S L x (clsN (16+b.length)))(hp:p=0∨p∈l)(hb:∀k∈b,k<256)(hk:zuz b=true)(hno:fndN l E B p (b.map lowB)=none)(hrf:p≠0→(E p).refs+1<4294967296):Calls prog 225 #[q,x,p,.string (za0 b)] W fun e w'=>e= .returned (0:Int)∧Fr q.blocks W w'∧∃v E' B',NI w0 q S (fun y=>y=x∨L y) (l++ [x]) v E' B' w'∧NewE E E' B B' x p (b.map lowB)∧RtQ u v:=by
 have hlen:=zwy hk;have hc:=zv7 (16+b.length) (by omega);have hll:=zw8 b;have hlow:=zwz hb;have hxb:=g.wb.at_ hf.lv;have hbase:=g.wb.base;have hx0:x≠0:=by omega
 have hxs:x<4294967296:=by have h1:=hxb.2.2.2.2.2.1;have h2:=g.wb.cz;have h3:zdw 7 224≤1048576:=(by decide);omega
 have hpl:p<1048576:=by
  rcases hp with e|e
  ·omega
  ·exact(g.lt e).2
 have hh:=g.hlt p hp;have hmx:=zvo (hsh E p) (b.map lowB);obtain⟨X,hX⟩:∃X,newX (clsN (16+b.length)) b.length p (mixL (hsh E p) (b.map lowB))=X:=⟨_,rfl⟩;have hXo:X.Ok:=hX▸zw5 hc.2.1 (by omega) (by omega) hmx;have hXr:X.right=true:=hX▸zw6 ⟨hc.1,hc.2.1⟩ hlen;have hXt:X.tag=2:=by rw[←hX];rfl
 have few:=g.few;have H0:=hid (g.fr0 ((Fr.refl [] W).alloc (.cells #[(0:Int)] 56)));have F0:=Lib.hid ((Fr.refl q.blocks W).alloc);have A0:=hid (Blk.new W 56 #[.int .i64 0]);have hlt:=g.wb.lt;have HNA:=hid (show W.heap.size∉q.blocks from fun hm=>by have:=hlt _ hm;omega);have HM:=hid (zvw H0.wb.h.m)
 have HCl:=hid (fun V (hV:NI w0 q S L l u E B V)=>(show Calls prog 117 #[.string (za0 b)] V fun e w'=>e= .returned (.tuple #[.int .i64 (clsN (16+b.length)),(0:Int)])∧Fr [] V w' from by
  have:=zv9 hV.wb.h.m.tab b hb;rw[if_pos hk]at this;exact this))
 have HPa:=hid (fun V (hV:NI w0 q S L l u E B V)=>(show Calls prog 291 #[q,p] V fun e w'=>e= .returned true∧IsH w' q u∧Fr q.blocks V w' from by
  rcases Nat.eq_zero_or_pos p with e|h1
  ·rw[e];exact zvy hV.wb.h
  ·have hm:=hp.resolve_left (by omega)
   have:=zvx hV.wb.h (hV.wb.ix.e p ((hV.mem p).1 hm).1) (by omega);rw[((hV.mem p).1 hm).2]at this;exact this))
 have HBl:=hid (fun V (hV:NI w0 q S L l u E B V)=>zwt hV.wb hf)
 have HFi:=hid (fun V (hV:NI w0 q S L l u E B V)=>(show Calls prog 286 #[q,p,.string (za0 b)] V fun e w'=>e= .returned (.tuple #[(0:Int),false])∧IsH w' q u∧Fr q.blocks V w' from by
  have:=zw0 hV p hp b hb;rw[if_pos hk,hno]at this;exact this))
 have HLo:=hid (fun V=>zve V b hb (by omega))
 have HHs:=hid (fun V (hV:NI w0 q S L l u E B V)=>(show Calls prog 148 #[q,p] V fun e w'=>e= .returned (.int .u32 (hsh E p))∧IsH w' q u∧Fr q.blocks V w' from by
  unfold hsh;rcases Nat.eq_zero_or_pos p with e|h1
  ·rw[if_pos e,e]
   exact(zv0 V _).mono fun e w' ⟨h1,h2⟩=>⟨h1,by rw[h2];exact hV.wb.h,by rw[h2];exact Fr.refl _ _⟩
  ·have hm:=hp.resolve_left (by omega)
   rw[if_neg (by omega)];exact zvz hV.wb.h (hV.wb.ix.e p ((hV.mem p).1 hm).1) (by omega) ((hV.mem p).1 hm).2))
 have HMx:=hid (fun V=>(show Calls prog 294 #[.int .u32 (hsh E p),.string (za0 (b.map lowB))] V fun e w'=>e= .returned (.int .u32 (mixL (hsh E p) (b.map lowB)))∧Fr [] V w' from by
  have:=xlab V (hsh E p) (b.map lowB) hlow (by omega);rw[zww]at this;exact this))
 have hsz0:(za0 (b.map lowB)).size=b.length:=by rw[zu1,hll]
 have HPu:=hid (fun V (hV:NI w0 q S L l u E B V)=>(show Calls prog 88 #[q,x,.agg #[(2:Int),.int .i64 (clsN (16+b.length)),false,.int .i64 (za0 (b.map lowB)).size,.int .u32 p,.int .u32 0,.int .u32 0,.int .u32 0,.int .u64 0,.int .u16 0,(0:Int),.int .u32 (mixL (hsh E p) (b.map lowB))]] V fun e w'=>e= .returned (0:Int)∧Fr q.blocks V w'∧∃v,(WB w0 q S L v E B w'∧BlkE v x X)∧v.sl=u.sl∧v.rt=u.rt from by
  rw[hsz0];have:=zwo hV.wb hf.lv hf.no hXo hXr (.inr hXt);rw[←hX]at this;refine this.mono fun e w' ⟨h1,h2,v,h3,h4,h5,h6⟩=>⟨h1,h2,v,⟨h3,hX▸h4⟩,h5,h6⟩))
 have hfit:16+(b.map lowB).length≤csz (clsN (16+b.length)):=by rw[hll];exact hc.2.2
 have HWr:=hid (fun V v (hV:WB w0 q S L v E B V∧BlkE v x X) (g1:Nat) (cap:Nat) (hB:Byt V (some ⟨g1,0,none⟩) (b.map lowB)) (hg1:g1≠q.pw)=>(show Calls prog 112 #[q,((x:Int)+16:),.slice (some ⟨g1,0,none⟩) (za0 (b.map lowB)).size cap,(5:Int)] V fun e w'=>e= .returned true∧Fr q.blocks V w'∧∃v',WB w0 q S (fun y=>y=x∨L y) v' (up E x X) (up B x (b.map lowB)) w'∧v'.sl=v.sl∧v'.rt=v.rt from by
  rw[hsz0];have:=zwp (c:=cap) hV.1 hf.lv hf.no hV.2 hXt hB (fun g o e=>by cases e;exact hg1) hfit;rw[hll]at this;refine this.mono fun e w' ⟨h1,h2,v',h3,h4,h5,h6,h7⟩=>⟨h1,h2,v',h3.add hf.no h4 ?_,h5,h6⟩;have hsz:sz X.tag.toNat=16:=by rw[hXt];rfl
  refine⟨⟨clsN (16+b.length),?_,hc.1,hc.2.1,hf.lv,?_⟩,hlow,?_,fun _=>⟨?_,by rw[hll];exact hlen.1,by rw[hll];exact hlen.2⟩,fun h=> ?_⟩
  ·rw[←hX];rfl
  ·rw[hsz];exact hfit
  ·rw[hsz,hll];exact h7
  ·rw[←hX,hll];rfl
  ·rw[hXt]at h;cases h))
 have HHe:=hid (fun(hp0:p≠0) V v (hV:WB w0 q S (fun y=>y=x∨L y) v (up E x X) (up B x (b.map lowB)) V)=>(show Calls prog 241 #[q,p,(1:Int)] V fun e w'=>e= .returned (.int .i64 (((E p).refs+1:Nat):Int))∧Fr q.blocks V w'∧∃v',WB w0 q S (fun y=>y=x∨L y) v' (up (up E x X) p {E p with refs:=(E p).refs+1}) (up B x (b.map lowB)) w'∧v'.sl=v.sl∧v'.rt=v.rt from by
  have hm:=(g.mem p).1 (hp.resolve_left hp0);have hne:p≠x:=fun e=>hf.no (e▸hm.1);have he:up E x X p=E p:=zf2 _ _ hne;have:=zwq hV (x:=p) (.inr hm.1) (by rw[he];exact hm.2) 1 ((E p).refs+1) (by rw[he];omega) (by omega) (hrf hp0);rw[he]at this;exact this))
 have hNx:¬InT 224 u.sl x:=fun h=>hf.no ((g.inx x hx0).1 h);have HIn:=hid (fun V v E3 (hV:WB w0 q S (fun y=>y=x∨L y) v E3 (up B x (b.map lowB)) V) (hs:v.sl=u.sl)=>zwm hV (.inl rfl) (by rw[hs];exact hNx));have HCo:=hid (fun V v E3 (hV:WB w0 q S (fun y=>y=x∨L y) v E3 (up B x (b.map lowB)) V) (hr:v.rt 17=l.length)=>zwr hV 1 (l.length+1) (by rw[hr];omega) (by omega) (by omega));have hcnt:=g.cnt;have HC17:=hid hcnt
 have HEnd1:=hid (fun(hp0:p=0) V T (v:TM) (hV:WB w0 q S (fun y=>y=x∨L y) ((v.wsl T).setRt 17 (l.length+1)) (up E x X) (up B x (b.map lowB)) V) (hs:v.sl=u.sl) (hrt:v.rt=u.rt) (hT:∀y,y≠0→(InT 224 T y↔y=x∨InT 224 v.sl y))=>
  (show∃v E' B',NI w0 q S (fun y=>y=x∨L y) (l++ [x]) v E' B' V∧NewE E E' B B' x p (b.map lowB)∧RtQ u v from by
   have hN:NewE E (up E x X) B (up B x (b.map lowB)) x p (b.map lowB):=by
    refine⟨by rw[zf1];exact hXt,by rw[zf1,←hX];rfl,by rw[zf1,←hX];rfl,by rw[zf1,←hX];rfl,zf1 _ _ _,fun y hy=>by rw[zf2 _ _ hy];exact⟨rfl,rfl,rfl⟩,fun y hy hy0=> ?_,fun y hy=>zf2 _ _ hy,fun y hy _=>zf2 _ _ hy⟩;rw[zf2 _ _ hy,if_neg (by omega),Nat.add_zero]
   exact⟨_,_,_,g.new hV hf.no hx0 hN (show up v.rt 17 (l.length+1) 17=l.length+1 from zf1 _ _ _) (fun y hy=>by rw[←hs];exact hT y hy) hp (by rw[zwx];exact hk) (zww b) hno,hN,fun f h1 _=>by show up v.rt 17 (l.length+1) f=u.rt f;rw[zf2 _ _ h1,hrt]⟩))
 have HEnd2:=hid (fun(hp0:p≠0) V T (v:TM) (hV:WB w0 q S (fun y=>y=x∨L y) ((v.wsl T).setRt 17 (l.length+1)) (up (up E x X) p {E p with refs:=(E p).refs+1}) (up B x (b.map lowB)) V) (hs:v.sl=u.sl) (hrt:v.rt=u.rt) (hT:∀y,y≠0→(InT 224 T y↔y=x∨InT 224 v.sl y))=>
  (show∃v E' B',NI w0 q S (fun y=>y=x∨L y) (l++ [x]) v E' B' V∧NewE E E' B B' x p (b.map lowB)∧RtQ u v from by
   have hm:=(g.mem p).1 (hp.resolve_left hp0);have hne:p≠x:=fun e=>hf.no (e▸hm.1)
   have hN:NewE E (up (up E x X) p {E p with refs:=(E p).refs+1}) B (up B x (b.map lowB)) x p (b.map lowB):=by
    have hxx:up (up E x X) p {E p with refs:=(E p).refs+1} x=X:=by rw[zf2 _ _ hne.symm,zf1]
    refine⟨by rw[hxx];exact hXt,by rw[hxx,←hX];rfl,by rw[hxx,←hX];rfl,by rw[hxx,←hX];rfl,zf1 _ _ _,fun y hy=> ?_,fun y hy _=> ?_,fun y hy=>zf2 _ _ hy,fun y hy h2=>by rw[zf2 _ _ h2,zf2 _ _ hy]⟩
    ·by_cases e:y=p
     ·rw[e,zf1];exact⟨rfl,rfl,rfl⟩
     ·rw[zf2 _ _ e,zf2 _ _ hy];exact⟨rfl,rfl,rfl⟩
    ·by_cases e:y=p
     ·rw[if_pos e,e,zf1]
     ·rw[if_neg e,zf2 _ _ e,zf2 _ _ hy];rfl
   exact⟨_,_,_,g.new hV hf.no hx0 hN (show up v.rt 17 (l.length+1) 17=l.length+1 from zf1 _ _ _) (fun y hy=>by rw[←hs];exact hT y hy) hp (by rw[zwx];exact hk) (zww b) hno,hN,fun f h1 _=>by show up v.rt 17 (l.length+1) f=u.rt f;rw[zf2 _ _ h1,hrt]⟩))
 have wu:IntKind.u32.wrap (p:Int)=(p:Int):=by show(p:Int) %4294967296=p;omega
 have wx:=i6 ((x:Int)+16);have hcv:=fun W=>run_bytes_of_string (P:=prog) W 9 49 5 (za0 (b.map lowB)) underlying9 underlying49 underlying5;have HBy:=hid (fun(w:World) (cap:Nat) (z:Nat×Nat)=>zw9 w 5 (b.map lowB) hlow (by omega) cap z);have HPW:=hid (show q.pw∈q.blocks from by simp[MH.blocks]);generalize hS2:za0 (b.map lowB)=s2 at*;have hp0c:=Classical.em (p=0);have g0:=hid g
 have hp1:((p:Int) !=0)= !decide (p=0):=by
  by_cases e:p=0
  ·subst e;rfl
  ·simp[e]
 generalize mixL (hsh E p) (b.map lowB)=hx at*;generalize hsh E p=h0 at*;generalize za0 b=s at*;generalize clsN (16+b.length)=cl at*;clear hX hXo hXr hXt few hlt hll hlow hxb hbase hx0 hxs hpl hh hmx hfit hNx hcnt hno hrf hb hk g hf hc hlen hS2 hsz0;go_enter_defers func225,ntmps225;go_wp2_with fail;go_call HM.out as e w1 ⟨rfl,f1⟩;have K1:=hid (H0.fr0 f1);have F1:=hid ((F0.out _).trans f1.nil);have A1:=hid (A0.fr f1 (by simp));clear f1 HM H0 F0 A0;go_wp2_with fail;go_call zw2 _ _ as e w1' ⟨rfl,rfl⟩;go_wp2_with fail;go_call HCl.out _ K1.out as e w2 ⟨rfl,f2⟩;have K2:=hid (K1.fr0 f2);have F2:=hid (F1.trans f2.nil);have A2:=hid (A1.fr f2 (by simp));clear f2 K1 F1 A1;go_wp2_with fail;go_call zw2 _ _ as e w2' ⟨rfl,rfl⟩;go_wp2_with fail;go_call HPa.out _ K2.out as e w3 ⟨rfl,k3,f3⟩;have K3:=hid (K2.same k3 f3);have F3:=hid (F2.trans f3);have A3:=hid (A2.fr f3 HNA.out);clear k3 f3 K2 F2 A2;go_wp2_with fail;go_call HBl.out _ K3.out as e w4 ⟨rfl,k4,f4⟩;have K4:=hid (K3.same k4 f4);have F4:=hid (F3.trans f4);have A4:=hid (A3.fr f4 HNA.out);clear k4 f4 K3 F3 A3;go_wp2_with fail;go_call zw2 _ _ as e w4' ⟨rfl,rfl⟩;go_wp2_with fail;go_call HFi.out _ K4.out as e w5 ⟨rfl,k5,f5⟩;have K5:=hid (K4.same k5 f5);have F5:=hid (F4.trans f5);have A5:=hid (A4.fr f5 HNA.out);clear k5 f5 K4 F4 A4;go_wp2_with fail;go_call zw2 _ _ as e w5' ⟨rfl,rfl⟩;go_wp2_with fail;go_call HLo.out _ as e w6 ⟨rfl,f6⟩;have K6:=hid (K5.fr0 f6);have F6:=hid (F5.trans f6.nil);have A6:=hid (A5.fr f6 (by simp));clear f6 K5 F5 A5;go_wp2_with fail;go_call HHs.out _ K6.out as e w7 ⟨rfl,k7,f7⟩;have K7:=hid (K6.same k7 f7);have F7:=hid (F6.trans f7);have A7:=hid (A6.fr f7 HNA.out);clear k7 f7 K6 F6 A6;go_wp2_with fail;go_call HMx.out _ as e w8 ⟨rfl,f8⟩;have K8:=hid (K7.fr0 f8);have F8:=hid (F7.trans f8.nil);have A8:=hid (A7.fr f8 (by simp));clear f8 K7 F7 A7;go_wp2_with fail;go_call HPu.out _ K8.out as e w9 ⟨rfl,f9,v9,k9,s9,r9⟩;have K9:=hid k9;have F9:=hid (F8.trans f9);have A9:=hid (A8.fr f9 HNA.out);clear k9 f9 K8 F8 A8;go_wp2_with fail;have FA:=(Fr.refl q.blocks w9).alloc (.cells (bytesRow s2 (grownCap w9 s2.size 0 5)) 5 ((bytesRow s2 (grownCap w9 s2.size 0 5)).size,(bytesRow s2 (grownCap w9 s2.size 0 5)).size+1));have FB:=(Fr.refl [] w9).alloc (.cells (bytesRow s2 (grownCap w9 s2.size 0 5)) 5 ((bytesRow s2 (grownCap w9 s2.size 0 5)).size,(bytesRow s2 (grownCap w9 s2.size 0 5)).size+1));have hlt9:=K9.1.lt _ HPW.out;go_call HWr.out _ v9 ⟨K9.out.1.fr0 FB.drew,K9.out.2⟩ w9.heap.size _ ((HBy.out w9 _ _).fr (Fr.refl [] _).drew (by simp)) (by omega) as e w10 ⟨rfl,f10,v10,k10,s10,r10⟩;have K10:=hid k10;have F10:=hid ((F9.trans FA.drew).trans f10);have A10:=hid ((A9.fr FA.drew HNA.out).fr f10 HNA.out);have s11:v10.sl=u.sl:=s10.trans s9;have r11:v10.rt 17=l.length:=by rw[r10,r9];exact HC17.out
 have RR:=hid (r10.trans r9);clear k10 f10 F9 A9 FA FB hlt9 K9 s10 r10 s9 r9 HPW HBy HWr HPu;rcases hp0c with h0'|h0'
 ·have hq1:((p:Int) !=0)=false:=by rw[hp1,decide_eq_true h0'];rfl
  have K11:=K10;have F11:=F10;have A11:=A10;clear hp1 K10 F10 A10 HEnd2 HHe;go_wp2_with fail;go_call HIn.out _ _ _ K11.out s11 as e w20 ⟨rfl,f20,T,k20,hT⟩;have K20:=hid k20;have F20:=hid (F11.trans f20);have A20:=hid (A11.fr f20 HNA.out);clear k20 f20 F11 A11;go_wp2_with fail;have rT:(v10.wsl T).rt 17=l.length:=r11;go_call HCo.out _ _ _ K20.out rT as e w21 ⟨rfl,f21,k21⟩;have K21:=hid k21;have F21:=hid (F20.trans f21);have A21:=hid (A20.fr f21 HNA.out);have hcl:=A21.cell 0;have hfz:=A21.frozen 0;simp only[List.getElem?_toArray,List.getElem?_cons_zero]at hcl;clear k21 f21 F20 A20;go_wp2_with fail;refine leaves_cons (f:=239) (args:= #[.pointer (some ⟨W.heap.size,0,none⟩)]) (by simp) (by simp[go_sem]) ?_;refine(zw1 _ _).mono ?_;rintro e u' w'' ⟨rfl,rfl,rfl⟩;have hr:=(A21.set 0 (.int .i64 0)).cell 0;simp only[List.setIfInBounds_toArray,List.set_cons_zero,List.getElem?_toArray,List.getElem?_cons_zero]at hr;simp[Leaves,settle,results,results225,go_sem,hr];exact⟨F21.setCell (.inr (Nat.le_refl _)) _,HEnd1.out h0' _ T _ (WB.own g0.wb K21.out 0 _) s11 RR.out hT⟩
 ·have hq1:((p:Int) !=0)=true:=by rw[hp1,decide_eq_false h0'];rfl
  clear hp1 HEnd1;go_wp2_with fail;go_call HHe.out h0' _ _ K10.out as e w11 ⟨rfl,f11,v11,k11,s12,r12⟩;have K12:=hid k11;have F12:=hid (F10.trans f11);have A12:=hid (A10.fr f11 HNA.out);have s12'':v11.sl=u.sl:=s12.trans s11;have r13:v11.rt 17=l.length:=by rw[r12];exact r11
  have RR2:=hid (r12.trans RR.out);clear k11 f11 F10 A10 K10 HHe;go_wp2_with fail;go_call HIn.out _ _ _ K12.out s12'' as e w20 ⟨rfl,f20,T,k20,hT⟩;have K20:=hid k20;have F20:=hid (F12.trans f20);have A20:=hid (A12.fr f20 HNA.out);clear k20 f20 F12 A12;go_wp2_with fail;have rT:(v11.wsl T).rt 17=l.length:=r13;go_call HCo.out _ _ _ K20.out rT as e w21 ⟨rfl,f21,k21⟩;have K21:=hid k21;have F21:=hid (F20.trans f21);have A21:=hid (A20.fr f21 HNA.out);have hcl:=A21.cell 0;have hfz:=A21.frozen 0;simp only[List.getElem?_toArray,List.getElem?_cons_zero]at hcl;clear k21 f21 F20 A20;go_wp2_with fail;refine leaves_cons (f:=239) (args:= #[.pointer (some ⟨W.heap.size,0,none⟩)]) (by simp) (by simp[go_sem]) ?_;refine(zw1 _ _).mono ?_;rintro e u' w'' ⟨rfl,rfl,rfl⟩;have hr:=(A21.set 0 (.int .i64 0)).cell 0;simp only[List.setIfInBounds_toArray,List.set_cons_zero,List.getElem?_toArray,List.getElem?_cons_zero]at hr;simp[Leaves,settle,results,results225,go_sem,hr];exact⟨F21.setCell (.inr (Nat.le_refl _)) _,HEnd2.out h0' _ T _ (WB.own g0.wb K21.out 0 _) s12'' RR2.out hT⟩
end
section
variable{w0 W W':World}{q:MH}{S S':SS}{x y c:Nat}{u v:TM}{L:Nat→Prop}{l:List Nat}{E:Nat→HB}{B:Nat→List Nat}{X:HB}{b:List Nat}
theorem NI.del(g:NI w0 q S L l u E B W)(hx:x∈l)(hno:∀y∈l,(E y).name≠x)(g':WB w0 q S' (fun y=>L y∧y≠x) v E B W')(hr:v.rt 17=l.length-1)(hin:∀y,y≠0→(InT 224 v.sl y↔InT 224 u.sl y∧y≠x)):NI w0 q S' (fun y=>L y∧y≠x) (l.erase x) v E B W':=by
 have hm:∀y,y∈l.erase x↔y∈l∧y≠x:=fun y=>by rw[g.nd.mem_erase_iff];exact And.comm
 refine⟨g',g.nd.erase x,fun y=> ?_,?_,fun y hy=> ?_,fun y hy=> ?_,fun y hy=>g.hs y ((hm y).1 hy).1,fun y hy=>g.lb y ((hm y).1 hy).1,fun y hy z hz=>g.one y ((hm y).1 hy).1 z ((hm z).1 hz).1⟩
 ·rw[hm,g.mem y]
  constructor
  ·rintro⟨⟨a,b⟩,c⟩;exact⟨⟨a,c⟩,b⟩
  ·rintro⟨⟨a,c⟩,b⟩;exact⟨⟨a,b⟩,c⟩
 ·rw[hr,List.length_erase_of_mem hx]
 ·rw[hin y hy,g.inx y hy]
 ·have hy':=(hm y).1 hy
  rcases g.up y hy'.1 with k|k
  ·exact .inl k
  ·exact .inr ((hm _).2 ⟨k,hno y hy'.1⟩)
theorem zxb(g:NI w0 q S L l u E B W)(hx:x∈l)(hno:∀y∈l,(E y).name≠x)(hX:E x=X):Calls prog 242 #[q,x,X.val] W fun e w'=>e= .returned X.name∧Fr q.blocks W w'∧∃S' v,NI w0 q S' (fun y=>L y∧y≠x) (l.erase x) v E B w'∧RtQ u v∧∀y m,Lv 7 S' y m↔Lv 7 S y m∧y≠x:=by
 have hL:=(g.mem x).1 hx;have hx0:=(g.lt hx).1;have hlv:∃m,Lv 7 S x m:=g.wb.lv hL.1;obtain⟨m,hm⟩:=hlv;have hlp:1≤l.length:=List.length_pos_of_mem hx;have few:=g.few;have hlt:=g.wb.lt;have HNA:=hid (show W.heap.size∉q.blocks from fun hm=>by have:=hlt _ hm;omega)
 have hnm:X.name<1048576:=by
  rw[←hX];rcases g.up x hx with e|e
  ·omega
  ·exact(g.lt e).2
 have wn:IntKind.i64.wrap (X.name:Int)=(X.name:Int):=i6 _;have H0:=hid (g.fr0 ((Fr.refl [] W).alloc (.cells X.cells 122)));have F0:=hid ((Fr.refl q.blocks W).alloc (.cells X.cells 122));have A0:=hid (Blk.new W 122 X.cells);have HD:=hid (fun V (hV:NI w0 q S L l u E B V)=>zwn hV.wb hL.1 ((g.inx x hx0).2 hL.1))
 have HG:=hid (fun V T (hV:WB w0 q S L (u.wsl T) E B V) (hT:∀y,y≠0→(InT 224 T y↔InT 224 u.sl y∧y≠x))=>zwh hV hm (fun i hi e=>by
  have:InT 224 T x:=⟨i,hi,e⟩;exact((hT x hx0).1 this).2 rfl))
 have hcnt:=g.cnt;have HC:=hid (fun V S' (v:TM) (hV:WB w0 q S' (fun y=>L y∧y≠x) v E B V) (hr:v.rt 17=l.length)=>zwr hV (-1) (l.length-1) (by rw[hr];omega) (by omega) (by omega))
 have HE:=hid (fun V S' (v:TM) (T:Nat→Nat) (hV:WB w0 q S' (fun y=>L y∧y≠x) (v.setRt 17 (l.length-1)) E B V) (hs:v.sl=T) (hT:∀y,y≠0→(InT 224 T y↔InT 224 u.sl y∧y≠x))=>
  (show NI w0 q S' (fun y=>L y∧y≠x) (l.erase x) (v.setRt 17 (l.length-1)) E B V from g.del hx hno hV (show up v.rt 17 (l.length-1) 17=l.length-1 from zf1 _ _ _) (by show∀y,y≠0→(InT 224 v.sl y↔_);rw[hs];exact hT)))
 have HC17:=hid hcnt;clear hcnt hlt few hlp hnm hX hm hx0 hL hno hx g;obtain⟨x1,x2,x3,x4,x5,x6,x7,x8,x9,x10,x11,x12⟩:=X;simp only[]at wn;show Calls prog 242 #[q,x,.agg #[x1,x2,x3,x4,.int .u32 x5,.int .u32 x6,.int .u32 x7,.int .u32 x8,.int .u64 x9,.int .u16 x10,x11,.int .u32 x12]] W fun e w'=>e= .returned x5∧Fr q.blocks W w'∧∃S' v,NI w0 q S' (fun y=>L y∧y≠x) (l.erase x) v E B w'∧RtQ u v∧∀y m,Lv 7 S' y m↔Lv 7 S y m∧y≠x
 have A0':Hid (Blk (W.alloc (.cells #[x1,x2,x3,x4,.int .u32 x5,.int .u32 x6,.int .u32 x7,.int .u32 x8,.int .u64 x9,.int .u16 x10,x11,.int .u32 x12] 122)) W.heap.size 122 #[.int .i64 x1,.int .i64 x2,.bool x3,.int .i64 x4,.int .u32 x5,.int .u32 x6,.int .u32 x7,.int .u32 x8,.int .u64 x9,.int .u16 x10,.int .i64 x11,.int .u32 x12]):=A0;have H0':Hid (NI w0 q S L l u E B (W.alloc (.cells #[x1,x2,x3,x4,.int .u32 x5,.int .u32 x6,.int .u32 x7,.int .u32 x8,.int .u64 x9,.int .u16 x10,x11,.int .u32 x12] 122))):=H0;have F0':Hid (Fr q.blocks W (W.alloc (.cells #[x1,x2,x3,x4,.int .u32 x5,.int .u32 x6,.int .u32 x7,.int .u32 x8,.int .u64 x9,.int .u16 x10,x11,.int .u32 x12] 122))):=F0;clear A0 H0 F0;go_enter func242,ntmps242;go_wp2_with fail;go_call HD.out _ H0'.out as e w1 ⟨rfl,f1,T,k1,hT⟩;have K1:=hid k1;have F1:=hid (F0'.trans f1);have A1:=hid (A0'.fr f1 HNA.out);clear k1 f1 A0' F0' HD;go_wp2_with fail;go_call HG.out _ T K1.out hT as e w2 ⟨rfl,f2,S2,v2,sla,k2,hlv⟩;have K2:=hid k2;have F2:=hid (F1.trans f2);have A2:=hid (A1.fr f2 HNA.out);have r2:v2.rt 17=l.length:=(sla.rt 17 (.inr (by decide))).trans HC17.out;have s2:v2.sl=T:=sla.sl;have q2:=hid (show RtQ u v2 from fun f _ h=>sla.rt f h);clear k2 f2 A1 F1 HG sla;go_wp2_with fail;go_call HC.out _ S2 v2 K2.out r2 as e w3 ⟨rfl,f3,k3⟩;have K3:=hid k3;have F3:=hid (F2.trans f3);have A3:=hid (A2.fr f3 HNA.out);have hc4:=A3.cell 4;simp only[List.getElem?_toArray,List.getElem?_cons_zero,List.getElem?_cons_succ]at hc4;clear k3 f3 A2 F2 HC;go_wp2_with fail;go_ret;exact⟨rfl,F3.out,S2,_,HE.out _ S2 v2 T K3.out s2 hT,q2.trans (RtQ.set v2 _),hlv⟩
end
def bel(par:Nat→Nat)(l:List Nat)(y:Nat):Nat:=l.countP (fun z=>par z==y)
theorem bel_pos{par:Nat→Nat}{l:List Nat}{y:Nat}:bel par l y≠0↔∃z∈l,par z=y:=by
 unfold bel;rw[Nat.ne_zero_iff_zero_lt,List.countP_pos_iff];simp
theorem zxc{par:Nat→Nat}{l:List Nat}{x:Nat}(hx:x∈l)(y:Nat):bel par l y=bel par (l.erase x) y+(if par x=y then 1 else 0):=by
 unfold bel;rw[(List.perm_cons_erase hx).countP_eq,List.countP_cons];simp
theorem zxd{par:Nat→Nat}{l:List Nat}{x:Nat}(y:Nat):bel par (l++ [x]) y=bel par l y+(if par x=y then 1 else 0):=by
 unfold bel;rw[List.countP_append,List.countP_cons];simp
theorem zxe{par par':Nat→Nat}{l:List Nat}(h:∀z∈l,par' z=par z)(y:Nat):bel par' l y=bel par l y:=by
 unfold bel;exact List.countP_congr fun z hz=>by rw[h z hz]
theorem zxf(par:Nat→Nat)(l:List Nat)(y:Nat):bel par l y≤l.length:=List.countP_le_length
inductive Rem(own par:Nat→Nat):List Nat→List Nat→Prop
 |refl (l:List Nat):Rem own par l l
 |step {l m:List Nat} {x:Nat}:Rem own par l m→x∈m→own x=0→(∀z∈m,par z≠x)→Rem own par l (m.erase x)
def Firm(own par:Nat→Nat)(l:List Nat):Prop:= ∀y∈l,own y=0→ ∃z∈l,par z=y
theorem Rem.sub{own par:Nat→Nat}{l m:List Nat}(h:Rem own par l m):m.Sublist l:=by
 induction h with
 |refl=>exact List.Sublist.refl _
 |step _ _ _ _ ih=>exact List.Sublist.trans List.erase_sublist ih
theorem Rem.stay{own par:Nat→Nat}{l m f:List Nat}(h:Rem own par l m)(hf:Firm own par f)(hs:∀y∈f,y∈l)(hn:l.Nodup):∀y∈f,y∈m:=by
 induction h with
 |refl=>exact hs
 |step h1 hx h0 hz ih=>
  intro y hy;have hm:=ih y hy;refine(List.mem_erase_of_ne fun e=> ?_).2 hm;subst e;obtain⟨z,hz1,hz2⟩:=hf y hy h0;exact hz z (ih z hz1) hz2
theorem zxg{a l:List Nat}(h:a.Sublist l)(hn:l.Nodup):a=l.filter (fun y=>decide (y∈a)):=by
 induction h with
 |slnil=>rfl
 | @cons a l x h ih=>
  rw[List.nodup_cons]at hn;rw[List.filter_cons,if_neg (by simp;exact fun hm=>hn.1 (h.subset hm))];exact ih hn.2
 | @cons_cons a l x h ih=>
  rw[List.nodup_cons]at hn;rw[List.filter_cons,if_pos (by simp)];congr 1;rw[List.filter_congr (q:=fun y=>decide (y∈a)) (fun y hy=> ?_)]
  ·exact ih hn.2
  ·rw[decide_eq_decide,List.mem_cons]
   exact⟨fun k=>k.resolve_left (fun e=>hn.1 (e▸hy)),.inr⟩
theorem Rem.uniq{own par:Nat→Nat}{l m f:List Nat}(h:Rem own par l m)(k:Rem own par l f)(hm:Firm own par m)(hf:Firm own par f)(hn:l.Nodup):m=f:=by
 have h1:=h.stay hf (fun y hy=>k.sub.subset hy) hn;have h2:=k.stay hm (fun y hy=>h.sub.subset hy) hn
 have e:∀{a b:List Nat},a.Sublist l→b.Sublist l→(∀y,y∈a→y∈b)→(∀y,y∈b→y∈a)→a=b:=by
  intro a b ha hb h1 h2;rw[zxg ha hn,zxg hb hn];refine List.filter_congr fun y hy=> ?_;rw[decide_eq_decide];exact⟨h1 y,h2 y⟩
 exact e h.sub k.sub h2 h1
structure LetI(l:List Nat)(E:Nat→HB)(own:Nat→Nat)(x1 k:Nat)(l1:List Nat)(E1:Nat→HB):Prop where
 rem:Rem own (fun y=>(E y).name) l l1
 n:k+l1.length=l.length
 he: ∀y,(E1 y).tag=(E y).tag∧(E1 y).name=(E y).name∧(E1 y).hash=(E y).hash
 el: ∀y,y∉l→E1 y=E y
 at_:x1=0∨x1∈l1
 rf: ∀y∈l1,(E1 y).refs=own y+bel (fun y=>(E y).name) l1 y+(if y=x1 then 1 else 0)
 nf: ∀y∈l1,y≠x1→own y=0→ ∃z∈l1,(E z).name=y
structure LetD(l:List Nat)(E:Nat→HB)(own:Nat→Nat)(k:Nat)(l1:List Nat)(E1:Nat→HB):Prop where
 rem:Rem own (fun y=>(E y).name) l l1
 n:k+l1.length=l.length
 he: ∀y,(E1 y).tag=(E y).tag∧(E1 y).name=(E y).name∧(E1 y).hash=(E y).hash
 el: ∀y,y∉l→E1 y=E y
 rf: ∀y∈l1,(E1 y).refs=own y+bel (fun y=>(E y).name) l1 y
 nf:Firm own (fun y=>(E y).name) l1
section
variable{l l1:List Nat}{E E1:Nat→HB}{own:Nat→Nat}{x1 k r:Nat}
theorem LetI.zero(h:LetI l E own 0 k l1 E1)(h0:∀y∈l1,y≠0):LetD l E own k l1 E1:=
 ⟨h.rem,h.n,h.he,h.el,fun y hy=>by rw[h.rf y hy,if_neg (h0 y hy)];rfl,fun y hy=>h.nf y hy (h0 y hy)⟩
theorem LetI.he2(h:LetI l E own x1 k l1 E1)(r:Nat)(y:Nat):((up E1 x1 {E1 x1 with refs:=r}) y).tag=(E y).tag∧((up E1 x1 {E1 x1 with refs:=r}) y).name=(E y).name∧((up E1 x1 {E1 x1 with refs:=r}) y).hash=(E y).hash:=by
 have:=zw3 E1 x1 r y;have k:=h.he y;exact⟨this.1.trans k.1,this.2.1.trans k.2.1,this.2.2.trans k.2.2⟩
theorem LetI.el2(h:LetI l E own x1 k l1 E1)(hx:x1∈l1)(r:Nat)(y:Nat)(hy:y∉l):up E1 x1 {E1 x1 with refs:=r} y=E y:=by
 rw[zf2 _ _ (fun e=>hy (by rw[e];exact h.rem.sub.subset hx))];exact h.el y hy
theorem LetI.rf2(h:LetI l E own x1 k l1 E1)(hx:x1∈l1)(hr:(E1 x1).refs=r+1):∀y∈l1,((up E1 x1 {E1 x1 with refs:=r}) y).refs=own y+bel (fun y=>(E y).name) l1 y:=by
 intro y hy;by_cases e:y=x1
 ·subst e
  rw[zf1];have:=h.rf y hy;rw[if_pos rfl,hr]at this;show r=_;omega
 ·rw[zf2 _ _ e,h.rf y hy,if_neg e];rfl
theorem LetI.keep(h:LetI l E own x1 k l1 E1)(hx:x1∈l1)(hr:(E1 x1).refs=r+1)(h0:r≠0):LetD l E own k l1 (up E1 x1 {E1 x1 with refs:=r}):=by
 refine⟨h.rem,h.n,h.he2 r,h.el2 hx r,h.rf2 hx hr,fun y hy hy0=> ?_⟩;by_cases e:y=x1
 ·subst e
  have:=h.rf y hy;rw[if_pos rfl,hr]at this;exact bel_pos.1 (by omega)
 ·exact h.nf y hy e hy0
theorem LetI.free(h:LetI l E own x1 k l1 E1)(hx:x1∈l1)(hr:(E1 x1).refs=0+1):own x1=0∧∀z∈l1,(E z).name≠x1:=by
 have:=h.rf x1 hx;rw[if_pos rfl,hr]at this;refine⟨by omega,fun z hz e=> ?_⟩;have h2:bel (fun y=>(E y).name) l1 x1≠0:=bel_pos.2 ⟨z,hz,e⟩;omega
theorem LetI.drop(h:LetI l E own x1 k l1 E1)(hn:l1.Nodup)(hx:x1∈l1)(hr:(E1 x1).refs=0+1)(hup:(E1 x1).name=0∨(E1 x1).name∈l1):LetI l E own (E1 x1).name (k+1) (l1.erase x1) (up E1 x1 {E1 x1 with refs:=0}):=by
 obtain⟨f1,f2⟩:=h.free hx hr;have hnm:=(h.he x1).2.1;have hm:∀y,y∈l1.erase x1↔y∈l1∧y≠x1:=fun y=>by rw[hn.mem_erase_iff];exact And.comm
 have hlp:1≤l1.length:=List.length_pos_of_mem hx;refine⟨.step h.rem hx f1 f2,?_,h.he2 0,h.el2 hx 0,?_,fun y hy=> ?_,fun y hy hne hy0=> ?_⟩
 ·have:=h.n
  rw[List.length_erase_of_mem hx];omega
 ·rcases hup with e|e
  ·exact .inl e
  ·exact .inr ((hm _).2 ⟨e,by rw[hnm];exact f2 x1 hx⟩)
 ·have hy':=(hm y).1 hy
  rw[h.rf2 hx hr y hy'.1,zxc hx y,hnm];by_cases e:(E x1).name=y
  ·rw[if_pos e,if_pos e.symm];omega
  ·rw[if_neg e,if_neg (fun k=>e k.symm)];rfl
 ·have hy':=(hm y).1 hy
  obtain⟨z,hz,e⟩:=h.nf y hy'.1 hy'.2 hy0;refine⟨z,(hm z).2 ⟨hz,fun k=> ?_⟩,e⟩;subst k;exact hne (by rw[hnm,e])
end
section
variable{w0 W:World}{q:MH}{S S':SS}{x y n:Nat}{u v:TM}{L L':Nat→Prop}{l:List Nat}{E:Nat→HB}{B:Nat→List Nat}
theorem NI.getX(g:NI w0 q S L l u E B W)(hx:x∈l):Calls prog 95 #[q,x] W fun e w'=>∃a1 a2 a4 a11:Int,∃a3,∃a5 a6 a7 a8 a9 a10 a12:Nat,E x=⟨a1,a2,a3,a4,a5,a6,a7,a8,a9,a10,a11,a12⟩∧e= .returned (.tuple #[.agg #[a1,a2,a3,a4,.int .u32 a5,.int .u32 a6,.int .u32 a7,.int .u32 a8,.int .u64 a9,.int .u16 a10,a11,.int .u32 a12],true])∧Fr q.blocks W w'∧NI w0 q S L l u E B w':=by
 have:=nget g.wb.h (g.wb.ix.e x ((g.mem x).1 hx).1);rw[((g.mem x).1 hx).2]at this;exact this.mono fun e w' ⟨h1,h2,h3⟩=>⟨_,_,_,_,_,_,_,_,_,_,_,_,rfl,h1,h3,g.same h2 h3⟩
theorem zxh(g:NI w0 q S L l u E B W)(hx:x∈l){r:Nat}(hr:(E x).refs=r+1):Calls prog 241 #[q,x,.int .i64 (-1)] W (zR r fun w'=>Fr q.blocks W w'∧∃v,NI w0 q S L l v (up E x {E x with refs:=r}) B w'∧RtQ u v):=by
 have hm:=(g.mem x).1 hx;have hb:=(g.wb.ix.e x hm.1).ok.refs;refine(zwq g.wb hm.1 hm.2 (-1) r (by omega) (by omega) (by omega)).mono fun e w' ⟨h1,h2,v,h3,h4,h5⟩=>⟨h1,h2,v,g.re h3 (zw3 E x r) h4 (by rw[h5]),RtQ.eq h5⟩
def AllN(S:SS)(l R:List Nat)(L:Nat→Prop):Prop:=(∀y m,Lv 7 S y m→y∈l∨y∈R)∧ ∀y∈R,L y∧y∉l
theorem zxi(g:NI w0 q S L l u E B W)(hx:x∈l)(hno:∀y∈l,(E y).name≠x)(a1 a2 a4 a11:Int)(a3:Bool)(a5 a6 a7 a8 a9 a10 a12:Nat)(hX:E x=⟨a1,a2,a3,a4,a5,a6,a7,a8,a9,a10,a11,a12⟩):Calls prog 242 #[q,x,.agg #[a1,a2,a3,a4,.int .u32 a5,.int .u32 a6,.int .u32 a7,.int .u32 a8,.int .u64 a9,.int .u16 a10,a11,.int .u32 a12]] W (zR a5 fun w'=>Fr q.blocks W w'∧∃S' L' v,NI w0 q S' L' (l.erase x) v E B w'∧(∀R,AllN S l R L→AllN S' (l.erase x) R L')∧RtQ u v):=
 (zxb g hx hno hX).mono fun e w' ⟨h1,h2,S',v,h3,hq,h4⟩=>⟨h1,h2,S',_,v,h3,fun R ha=>⟨fun y m hy=>(by
  have:=(h4 y m).1 hy;exact(ha.1 y m this.1).imp (fun k=>(g.nd.mem_erase_iff).2 ⟨this.2,k⟩) id),fun y hy=>⟨⟨(ha.2 y hy).1,fun e=>(ha.2 y hy).2 (by rw[e];exact hx)⟩,fun k=>(ha.2 y hy).2 (List.mem_of_mem_erase k)⟩⟩,hq⟩
theorem nlet(g:NI w0 q S L l u E B W)(own:Nat→Nat)(hx:x∈l)(hI:LetI l E own x 0 l E):Calls prog 137 #[q,x] W fun e w'=>∃k S1 L1 l1 u1 E1,e= .returned (.tuple #[(k:Nat),(0:Int)])∧Fr q.blocks W w'∧NI w0 q S1 L1 l1 u1 E1 B w'∧LetD l E own k l1 E1∧(∀R,AllN S l R L→AllN S1 l1 R L1)∧RtQ u u1:=by
 have few:=g.few;have hlt:=g.wb.lt;have hr:=hI.rf x hx;rw[if_pos rfl]at hr;have HRp:=hid (show 0<(E x).refs from by omega);have HNA:=hid (show W.heap.size∉q.blocks from fun hm=>by have:=hlt _ hm;omega);have H0:=hid (g.fr0 ((Fr.refl [] W).alloc (.cells #[(0:Int)] 56)));have F0:=Lib.hid ((Fr.refl q.blocks W).alloc);have A0:=hid (Blk.new W 56 #[.int .i64 0]);have HM:=hid (zvw H0.wb.h.m);have HG:=hid (fun V (hV:NI w0 q S L l u E B V)=>hV.getX hx);have g0:=hid g;have HI:=hid hI;clear hlt hr hI hx g;generalize hN:l.length=N at*;have HN:=hid hN;clear hN;go_enter_defers func137,ntmps137;go_wp2_with fail;go_call HM.out as e w1 ⟨rfl,f1⟩;have K1:=hid (H0.fr0 f1);have F1:=hid ((F0.out _).trans f1.nil);have A1:=hid (A0.fr f1 (by simp));clear f1 HM H0 F0 A0;go_wp2_with fail;go_call zw2 _ _ as e w1' ⟨rfl,rfl⟩;go_wp2_with fail;go_call HG.out _ K1.out as e w2 ⟨a1,a2,a4,a11,a3,a5,a6,a7,a8,a9,a10,a12,hX,rfl,f2,k2⟩;have h8:0<a8:=by have:=HRp.out;rw[hX]at this;exact this
 have hrp':decide (0<a8)=true:=decide_eq_true h8;clear h8 hX HRp;have K2:=hid k2;have F2:=hid (F1.trans f2);have A2:=hid (A1.fr f2 HNA.out);clear k2 f2 K1 F1 A1 HG;go_wp2_with fail;have B3:=hid (Blk.new w2 122 #[.int .i64 a1,.int .i64 a2,.bool a3,.int .i64 a4,.int .u32 a5,.int .u32 a6,.int .u32 a7,.int .u32 a8,.int .u64 a9,.int .u16 a10,.int .i64 a11,.int .u32 a12]);have K3:=hid (K2.fr0 ((Fr.refl [] w2).alloc (.cells #[a1,a2,a3,a4,.int .u32 a5,.int .u32 a6,.int .u32 a7,.int .u32 a8,.int .u64 a9,.int .u16 a10,a11,.int .u32 a12] 122)));have F3:=hid (F2.alloc (.cells #[a1,a2,a3,a4,.int .u32 a5,.int .u32 a6,.int .u32 a7,.int .u32 a8,.int .u64 a9,.int .u16 a10,a11,.int .u32 a12] 122));have A3:=hid (A2.alloc (.cells #[a1,a2,a3,a4,.int .u32 a5,.int .u32 a6,.int .u32 a7,.int .u32 a8,.int .u64 a9,.int .u16 a10,a11,.int .u32 a12] 122));have hc7:=B3.cell 7;simp only[List.getElem?_toArray,List.getElem?_cons_zero,List.getElem?_cons_succ]at hc7;clear K2 F2 A2 B3;generalize hw3:w2.alloc (.cells #[a1,a2,a3,a4,.int .u32 a5,.int .u32 a6,.int .u32 a7,.int .u32 a8,.int .u64 a9,.int .u16 a10,a11,.int .u32 a12] 122)=w3 at*;have hw3':=hid hw3;clear hw3;go_call zw2 _ _ as e w3' ⟨rfl,rfl⟩;go_wp2_with fail;go_call zw2 _ _ as e w4 ⟨rfl,rfl⟩;go_wp2_with fail;go_loopw [1,4] (fun v1 v4 V=>∃x1 k:Nat,∃S1 L1 l1 u1 E1,v1= .int .i64 x1∧v4= .int .i64 k∧Hid (LetI l E own x1 k l1 E1)∧Hid (NI w0 q S1 L1 l1 u1 E1 B V)∧Hid (∀R,AllN S l R L→AllN S1 l1 R L1)∧Hid (RtQ u u1)∧Hid (Fr q.blocks W V)∧Hid (Blk V W.heap.size 56 #[(0:Int)])) (fun _ v4 _=>N-(intOf v4).toNat);case atStart=>exact⟨x,0,_,_,_,_,_,rfl,rfl,HI,K3,hid (fun _ h=>h),hid (RtQ.refl u),F3,A3⟩
 case round=>
  clear K3 F3 A3 HI;obtain⟨x1,k,S1,L1,l1,u1,E1,rfl,rfl,I4,K4,N4,Q4,F4,A4⟩:=hrel;have hcl:=A4.cell 0;have hfz:=A4.frozen 0;simp only[List.getElem?_toArray,List.getElem?_cons_zero]at hcl;rcases I4.at_ with e0|hx1
  ·subst e0
   have D4:=I4.zero (fun y hy=>(K4.lt hy).1);clear I4;go_wp2_with fail;clear hcl;refine leaves_cons (f:=239) (args:= #[.pointer (some ⟨W.heap.size,0,none⟩)]) (by simp) (by simp[go_sem]) ?_;refine(zw1 _ _).mono ?_;rintro e u' w'' ⟨rfl,rfl,rfl⟩;have hr:=(A4.set 0 (.int .i64 0)).cell 0;simp only[List.setIfInBounds_toArray,List.set_cons_zero,List.getElem?_toArray,List.getElem?_cons_zero]at hr;simp[Leaves,settle,results,results137,go_sem,hr];exact⟨k,rfl,F4.setCell (.inr (Nat.le_refl _)) _,S1,L1,l1,_,_,NI.re K4.out (WB.own g0.wb K4.wb 0 _) (fun y=>⟨rfl,rfl,rfl⟩) rfl rfl,D4,N4.out,Q4.out⟩
  ·obtain⟨r,hr⟩:∃r,(E1 x1).refs=r+1:=⟨_,by have:=I4.rf x1 hx1;rw[if_pos rfl]at this;exact this⟩
   have hx0:=(K4.lt hx1).1;have hxs:=(K4.lt hx1).2;have hq1:((x1:Int) !=0)=true:=by simp;omega
   have HHe:=hid (zxh K4.out hx1 hr);have hn4:=I4.n;have wk:IntKind.i64.wrap ((k:Int)+1)=((k+1:Nat):Int):=by rw[i64_in _ (by have:=HN.out;omega)];push_cast;rfl
   have hx1':=hid hx1;have hr':=hid hr;have hn4':=hid hn4;have HLp:=hid (show 1≤l1.length from List.length_pos_of_mem hx1);clear hx1 hr hcl hfz hx0 hxs hn4;go_wp2_with fail;go_call HHe.out as e w5 ⟨rfl,f5,v5,k5,q5⟩;have K5:=hid k5;have Q5:=hid (Q4.trans q5);have F5:=hid (F4.trans f5);have A5:=hid (A4.fr f5 HNA.out);have hcl:=A5.cell 0;have hfz:=A5.frozen 0;simp only[List.getElem?_toArray,List.getElem?_cons_zero]at hcl;clear k5 q5 f5 F4 A4 HHe;by_cases hr0:r=0
   ·subst hr0
    have hf:=I4.free hx1'.out hr'.out;have I5:=hid (I4.drop K4.nd hx1'.out hr'.out (K4.up x1 hx1'.out));have HGt:=hid (fun V (hV:NI w0 q S1 L1 l1 v5 (up E1 x1 {E1 x1 with refs:=0}) B V)=>hV.getX hx1'.out);have hno:∀y∈l1,(up E1 x1 {E1 x1 with refs:=0} y).name≠x1:=fun y hy=>by rw[(I4.he2 0 y).2.1];exact hf.2 y hy
    have HDr:=hid (fun V (hV:NI w0 q S1 L1 l1 v5 (up E1 x1 {E1 x1 with refs:=0}) B V)=>zxi hV hx1'.out hno);have HNm:=hid (show(up E1 x1 {E1 x1 with refs:=0} x1).name=(E1 x1).name from(zw3 E1 x1 0 x1).2.1);clear hf hno I4 K4 hcl hfz;go_wp2_with fail;go_call HGt.out _ K5.out as e w6 ⟨a1,a2,a4,a11,a3,a5,a6,a7,a8,a9,a10,a12,hX,rfl,f6,k6⟩;have K6:=hid k6;have F6:=hid (F5.trans f6);have A6:=hid (A5.fr f6 HNA.out);have hX':=hid hX;clear k6 f6 F5 A5 HGt hX;go_wp2_with fail;go_call HDr.out _ (K6.out.fr0 ((Fr.refl [] w6).alloc (.cells #[a1,a2,a3,a4,.int .u32 a5,.int .u32 a6,.int .u32 a7,.int .u32 a8,.int .u64 a9,.int .u16 a10,a11,.int .u32 a12] 122))) a1 a2 a4 a11 a3 a5 a6 a7 a8 a9 a10 a12 hX'.out as e w7 ⟨rfl,f7,S7,L7,v7,k7,n7,q7⟩;have K7:=hid k7;have Q7:=hid (Q5.trans q7);have N7:=hid (fun R h=>n7 R (N4.out R h));have F7:=hid ((F6.alloc (.cells #[a1,a2,a3,a4,.int .u32 a5,.int .u32 a6,.int .u32 a7,.int .u32 a8,.int .u64 a9,.int .u16 a10,a11,.int .u32 a12] 122)).trans f7);have A7:=hid ((A6.alloc (.cells #[a1,a2,a3,a4,.int .u32 a5,.int .u32 a6,.int .u32 a7,.int .u32 a8,.int .u64 a9,.int .u16 a10,a11,.int .u32 a12] 122)).fr f7 HNA.out);have h5:a5=(E1 x1).name:=by rw[←HNm.out,hX'.out]
    have I7:=hid (show LetI l E own a5 (k+1) (l1.erase x1) (up E1 x1 {E1 x1 with refs:=0})from h5▸I5.out);clear k7 n7 q7 f7 F6 A6 HDr h5 I5;go_wp2_with fail;go_roundw;case rel=>exact⟨a5,k+1,S7,L7,_,v7,_,rfl,rfl,I7,K7,N7,Q7,F7,A7⟩
    case measure=>simp[intOf];have:=hn4'.out;have:=HLp.out;have:=HN.out;omega
   ·have D5:=I4.keep hx1'.out hr'.out hr0
    have hq2:((r:Int)==0)=false:=by simp;omega
    clear I4 K4;go_wp2_with fail;clear hcl;refine leaves_cons (f:=239) (args:= #[.pointer (some ⟨W.heap.size,0,none⟩)]) (by simp) (by simp[go_sem]) ?_;refine(zw1 _ _).mono ?_;rintro e u' w'' ⟨rfl,rfl,rfl⟩;have hr:=(A5.set 0 (.int .i64 0)).cell 0;simp only[List.setIfInBounds_toArray,List.set_cons_zero,List.getElem?_toArray,List.getElem?_cons_zero]at hr;simp[Leaves,settle,results,results137,go_sem,hr];exact⟨k,rfl,F5.setCell (.inr (Nat.le_refl _)) _,S1,L1,l1,_,_,NI.re K5.out (WB.own g0.wb K5.wb 0 _) (fun y=>⟨rfl,rfl,rfl⟩) rfl rfl,D5,N4.out,Q5.out⟩
end
def cln(X:HB):HB:={X with next:=0,prev:=0}
structure EW where
 t:TM
 R:List Nat
 b:Nat
 d:Nat→HB
 p:Nat→List Nat
structure EnD(g:EW)(u:TM)(E:Nat→HB)(B:Nat→List Nat):Prop where
 rtb: ∀f,f≠17→(f<3∨15<f)→u.rt f=g.t.rt f
 hand:u.rt 13=g.R.headD 0
 broom:u.rt 14=g.b
 cnt:u.rt 15=g.R.length
 nd:g.R.Nodup
 bin:g.R≠ [] →g.b∈g.R
 bnil:g.R= [] →g.b=0
 cyc:Cyc E g.R
 dat: ∀y∈g.R,cln (E y)=g.d y∧B y=g.p y
theorem EnD.to{g:EW}{u v:TM}{E E':Nat→HB}{B B':Nat→List Nat}(h:EnD g u E B)(hq:RtQ u v)(he:∀y∈g.R,E' y=E y∧B' y=B y):EnD g v E' B':=
 ⟨fun f h1 h2=>(hq f h1 (h2.imp id (fun k=>by omega))).trans (h.rtb f h1 h2),(hq 13 (by decide) (by decide)).trans h.hand,(hq 14 (by decide) (by decide)).trans h.broom,(hq 15 (by decide) (by decide)).trans h.cnt,h.nd,h.bin,h.bnil,h.cyc.same (fun y hy=>by rw[(he y hy).1];exact⟨rfl,rfl⟩),fun y hy=>by rw[(he y hy).1,(he y hy).2];exact h.dat y hy⟩
def NP(w0:World)(q:MH)(u0:EW)(l:List Nat)(par refs:Nat→Nat)(B:Nat→List Nat)(fr:Nat)(W:World):Prop:=
 ∃S L u E B0,NI w0 q S L l u E B0 W∧AllN S l u0.R L∧EnD u0 u E B0∧(∀y∈l,(E y).name=par y∧(E y).refs=refs y∧B0 y=B y)∧(lst 7 S.inn 0).length=fr
section
variable{w0 W W':World}{q:MH}{u0:EW}{l:List Nat}{par refs:Nat→Nat}{B:Nat→List Nat}{fr x p:Nat}{b:List Nat}
theorem NP.fr0(h:NP w0 q u0 l par refs B fr W)(hf:Fr [] W W'):NP w0 q u0 l par refs B fr W':=by
 obtain⟨S,L,u,E,B0,g,r⟩:=h;exact⟨S,L,u,E,B0,g.fr0 hf,r⟩
theorem NP.nd(h:NP w0 q u0 l par refs B fr W):l.Nodup:=by
 obtain⟨S,L,u,E,B0,g,_⟩:=h;exact g.nd
theorem NP.few(h:NP w0 q u0 l par refs B fr W):l.length≤224:=by
 obtain⟨S,L,u,E,B0,g,_⟩:=h;exact g.few
theorem NP.rng(h:NP w0 q u0 l par refs B fr W)(hx:x∈l):x≠0∧x<1048576:=by
 obtain⟨S,L,u,E,B0,g,_⟩:=h;exact g.lt hx
theorem NP.up(h:NP w0 q u0 l par refs B fr W)(hx:x∈l):par x=0∨par x∈l:=by
 obtain⟨S,L,u,E,B0,g,_,_,r,_⟩:=h;rw[←(r x hx).1];exact g.up x hx
theorem NP.lab(h:NP w0 q u0 l par refs B fr W)(hx:x∈l):zuz (B x)=true∧(B x).map lowB=B x:=by
 obtain⟨S,L,u,E,B0,g,_,_,r,_⟩:=h;rw[←(r x hx).2.2];exact g.lb x hx
theorem NP.empty(h:NP w0 q u0 [] par refs B fr W)(hR:u0.R= []):fr=7:=by
 obtain⟨S,L,u,E,B0,g,ha,_,_,r⟩:=h;rw[←r];exact zqh (zqg g.wb.fl (fun x n hx=>by have:=ha.1 x n hx;simp[hR]at this))
def fndP(l:List Nat)(par:Nat→Nat)(B:Nat→List Nat)(up:Nat)(s:List Nat):Option Nat:=l.find? fun z=>par z==up&&B z==s
theorem zxj{l:List Nat}{E:Nat→HB}{B0 B:Nat→List Nat}{par refs:Nat→Nat}(h:∀y∈l,(E y).name=par y∧(E y).refs=refs y∧B0 y=B y)(p:Nat)(s:List Nat):fndN l E B0 p s=fndP l par B p s:=by
 unfold fndN fndP;induction l with
 |nil=>rfl
 |cons a l ih=>
  have ha:=h a (by simp);rw[List.find?_cons,List.find?_cons,ha.1,ha.2.2,ih (fun y hy=>h y (List.mem_cons_of_mem _ hy))]
theorem zxk(h:NP w0 q u0 l par refs B fr W)(hp:p=0∨p∈l)(hb:∀k∈b,k<256):Calls prog 286 #[q,p,.string (za0 b)] W (zR (if zuz b then ansN (fndP l par B p (b.map lowB))else ansN none) fun w'=>NP w0 q u0 l par refs B fr w'∧Fr q.blocks W w'):=by
 obtain⟨S,L,u,E,B0,g,ha,hr,r,hf⟩:=h;have:=zw0 g p hp b hb;rw[zxj r]at this;exact this.mono fun e w' ⟨h1,h2,h3⟩=>⟨h1,⟨S,L,u,E,B0,g.same h2 h3,ha,hr,r,hf⟩,h3⟩
theorem zxl(h:NP w0 q u0 l par refs B fr W)(hx:x∈l):Calls prog 40 #[q,x] W (zR (refs x) fun w'=>NP w0 q u0 l par refs B fr w'∧Fr q.blocks W w'):=by
 obtain⟨S,L,u,E,B0,g,ha,hr,r,hf⟩:=h;have hm:=(g.mem x).1 hx;have:=zv1 g.wb.h (g.wb.ix.e x hm.1) hm.2;rw[(r x hx).2.1]at this;exact this.mono fun e w' ⟨h1,h2,h3⟩=>⟨h1,⟨S,L,u,E,B0,g.same h2 h3,ha,hr,r,hf⟩,h3⟩
theorem zxm(h:NP w0 q u0 l par refs B fr W):Calls prog 41 #[q] W (zR l.length fun w'=>NP w0 q u0 l par refs B fr w'∧Fr q.blocks W w'):=by
 obtain⟨S,L,u,E,B0,g,ha,hr,r,hf⟩:=h;have:=zv2 g.wb.h;rw[g.cnt]at this;exact this.mono fun e w' ⟨h1,h2,h3⟩=>⟨h1,⟨S,L,u,E,B0,g.same h2 h3,ha,hr,r,hf⟩,h3⟩
theorem zxn(h:NP w0 q u0 l par refs B fr W)(hx:x∈l):Calls prog 144 #[q,x] W (zR (.tuple #[.string (za0 (B x)),(0:Int)]) fun w'=>NP w0 q u0 l par refs B fr w'∧Fr q.blocks W w'):=by
 obtain⟨S,L,u,E,B0,g,ha,hr,r,hf⟩:=h;have hm:=(g.mem x).1 hx;have ct:=g.wb.ct x hm.1;obtain⟨c,_,_,_,hlv,hfit⟩:=ct.n;obtain⟨b1,b2,b3,b4,b5,b6,b7⟩:=g.wb.at_ hlv;have hsz:sz (E x).tag.toNat=16:=by rw[hm.2];rfl
 have hon:=ct.on;rw[hsz]at hon hfit;have l2:=ct.l2 hm.2;have:=zwc g.wb.h (g.wb.ix.e x hm.1) hm.2 (B0 x) l2.1 l2.2.2 ct.lt hon (csz c) hfit b3 b2 b6 b7;rw[(r x hx).2.2]at this;exact this.mono fun e w' ⟨h1,h2,h3⟩=>⟨h1,⟨S,L,u,E,B0,g.same h2 h3,ha,hr,r,hf⟩,h3⟩
theorem zxo(h:NP w0 q u0 l par refs B fr W)(hx:x∈l)(hr1:refs x+1<4294967296):Calls prog 287 #[q,x] W (zR (0:Int) fun w'=>NP w0 q u0 l par (_root_.Go.Proofs.YtghllbkjghnmhaaGreatDoor.up refs x (refs x+1)) B fr w'∧Fr q.blocks W w'):=by
 obtain⟨S,L,u,E,B0,g,ha,hr,r,hf⟩:=h;have hm:=(g.mem x).1 hx;have:=zw4 g.wb hm.1 hm.2 (by rw[(r x hx).2.1];exact hr1);refine this.mono fun e w' ⟨h1,h2,v,h3,h4,h5⟩=>⟨h1,⟨S,L,v,_,B0,g.re h3 (zw3 E x _) h4 (by rw[h5]),ha,hr.to (RtQ.eq h5) (fun y hy=>⟨zf2 _ _ (fun e=>(ha.2 y hy).2 (by rw[e];exact hx)),rfl⟩),fun y hy=> ?_,hf⟩,h2⟩;refine⟨(zw3 E x _ y).2.1.trans (r y hy).1,?_,(r y hy).2.2⟩;by_cases e:y=x
 ·rw[e,zf1,zf1,←(r x hx).2.1]
 ·rw[zf2 _ _ e,zf2 _ _ e];exact(r y hy).2.1
end
theorem Rem.congr{own par par':Nat→Nat}{l m:List Nat}(h:Rem own par' l m)(hp:∀z∈l,par' z=par z):Rem own par l m:=by
 induction h with
 |refl=>exact .refl _
 |step h1 hx h0 hz ih=>exact .step ih hx h0 (fun z hm=>by rw[←hp z (h1.sub.subset hm)];exact hz z hm)
structure P0(u0:TM):Prop where
 r3:u0.rt 13=0∧u0.rt 14=0∧u0.rt 15=0
 ok:u0.Ok
 a:u0.a=7
 s:u0.s=224
 sl:SlI u0 SS.zero
 z:u0.sl=fun _=>0
 ft:u0.ft=0
 r:u0.rt 17=0
section
variable{w0 W:World}{q:MH}{u0:EW}{l:List Nat}{par refs own:Nat→Nat}{B:Nat→List Nat}{fr x:Nat}
theorem zxp(h:NP w0 q u0 l par refs B fr W)(hx:x∈l)(hr:∀y∈l,refs y=own y+bel par l y+(if y=x then 1 else 0))(hn:∀y∈l,y≠x→own y=0→∃z∈l,par z=y):Calls prog 137 #[q,x] W fun e w'=>∃k l1 refs1 fr1,e= .returned (.tuple #[(k:Nat),(0:Int)])∧Fr q.blocks W w'∧NP w0 q u0 l1 par refs1 B fr1 w'∧Rem own par l l1∧k+l1.length=l.length∧(∀y∈l1,refs1 y=own y+bel par l1 y)∧Firm own par l1:=by
 obtain⟨S,L,u,E,B0,g,ha,hrt,r,_⟩:=h;have hnm:∀z∈l,(E z).name=par z:=fun z hz=>(r z hz).1
 have hI:LetI l E own x 0 l E:=⟨.refl l,Nat.zero_add _,fun y=>⟨rfl,rfl,rfl⟩,fun _ _=>rfl,.inr hx,fun y hy=>by rw[(r y hy).2.1,hr y hy,zxe hnm],fun y hy h1 h2=>by
  obtain⟨z,hz,e⟩:=hn y hy h1 h2;exact⟨z,hz,by rw[hnm z hz];exact e⟩⟩
 refine(nlet g own hx hI).mono fun e w' ⟨k,S1,L1,l1,u1,E1,h1,h2,h3,h4,h5,h6⟩=>⟨k,l1,fun y=>(E1 y).refs,_,h1,h2,⟨S1,L1,u1,E1,B0,h3,h5 _ ha,hrt.to h6 (fun y hy=>⟨h4.el y (ha.2 y hy).2,rfl⟩),fun y hy=> ?_,rfl⟩,h4.rem.congr hnm,h4.n,fun y hy=> ?_,fun y hy h0=> ?_⟩
 ·have hy':=h4.rem.sub.subset hy
  exact⟨(h4.he y).2.1.trans (hnm y hy'),rfl,(r y hy').2.2⟩
 ·show(E1 y).refs=_
  rw[h4.rf y hy,zxe (fun z hz=>hnm z (h4.rem.sub.subset hz))]
 ·obtain⟨z,hz,e⟩:=h4.nf y hy h0
  exact⟨z,hz,by rw[←hnm z (h4.rem.sub.subset hz)];exact e⟩
theorem zxq(h:NP w0 q u0 l par refs B fr W):Calls prog 11 #[q] W (zR (0:Int) fun w'=>NP w0 q u0 l par refs B fr w'∧Fr q.blocks W w'):=by
 have h':=h;obtain⟨S,L,u,E,B0,g,_⟩:=h;have:=zgz g.wb.h.m;rw[g.wb.ft]at this;exact this.mono fun e w' ⟨he,k⟩=>⟨he,h'.fr0 k,k.nil⟩
theorem zxr{u:TM}(h:IsH W q u):Calls prog 23 #[q] W (zR (0:Int) fun w'=>IsH w' q (u.setRt 17 0)∧Fr q.blocks W w'):=by
 have HM:=hid (zvw h.m);have HS:=hid (fun V (hV:IsT V q u)=>zgx hV 17 (by decide) 0 (by decide) 17 rfl 0 rfl);go_in;go_wp2_with fail;go_call HM.out as e w1 ⟨rfl,f1⟩;have K1:=h.fr0 f1;have F1:=f1.nil (S:=q.blocks);clear f1 HM;go_wp2_with fail;go_call HS.out _ K1.m as e w2 ⟨rfl,k2,f2⟩;have K2:=K1.step k2 f2;have F2:=F1.trans f2;clear k2 f2;go_wp2;go_ret;exact⟨rfl,K2,F2⟩
end
def refN(refs:Nat→Nat)(x p:Nat)(y:Nat):Nat:=if y=x then 0 else refs y+(if y=p then 1 else 0)
end Go.Proofs.YtghllbkjghnmhaaGreatDoor
