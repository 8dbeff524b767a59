/- Several texts in one. -/
import Derived.Test.YtolhkhdbgnciiaaGreatDoorGA
import Derived.Lib.OthersKept
import Derived.Shelf.Strings.Builder2
namespace Go.Proofs.YtolhkhdbgnciiaaGreatDoor
open _root_.Go.Proofs.Tryz
open Go.Lib (hid)
open Go.IntWalk (i64_in)
set_option linter.unusedVariables false
set_option linter.unusedSimpArgs false
open Go.RowKit
set_option maxRecDepth 100000
set_option maxHeartbeats 1000000
def labB(c:Nat):Bool:=decide (33≤c)&&decide (c≤126)&& !(c==46)
def zap(l:List Nat):Bool:=decide (1≤l.length)&&decide (l.length≤63)&&l.all labB
theorem Fr.iterAt{S:List Nat}{w w':World}(h:Fr S w w'){k:Nat}(hk:w.heap.size≤k)(s:ByteArray)(p:Nat):Fr S w (w'.iterAt k s p):=by
 refine⟨h.os,h.tape,h.output,?_,fun j hj hn=> ?_⟩
 ·rw[Lib.iterAt_size];exact h.size
 ·rw[Lib.iterAt_other _ _ _ _ _ (by omega)];exact h.block j hj hn
theorem z04(w:World)(r:Int)(b:Bool)(hb:(decide (33≤r)&&decide (r≤126)&&(r !=46))=b):Calls prog 260 #[.int .i32 r] w fun e w'=>e= .returned (.bool b)∧w'=w:=by
 cases h1:decide ((33:Int)≤r)with
 |false=>
  rw[h1]at hb;obtain rfl:b=false:=by simpa using hb.symm
  go_enter func260,ntmps260;go_wp2_with fail;go_ret;exact⟨rfl,rfl⟩
 |true=>
  cases h2:decide (r≤(126:Int))with
  |false=>
   rw[h1,h2]at hb;obtain rfl:b=false:=by simpa using hb.symm
   go_enter func260,ntmps260;go_wp2_with fail;go_ret;exact⟨rfl,rfl⟩
  |true=>
   rw[h1,h2,Bool.true_and,Bool.true_and]at hb;go_enter func260,ntmps260;go_wp2_with fail;go_ret;exact⟨rfl,rfl⟩
theorem za4(l:List Nat):(zag l).size=l.length:=by simp[zag,ByteArray.size]
theorem zc4(l:List Nat)(hl:∀b∈l,b<256)(p:Nat)(h:p<(zag l).size):((zag l)[p]'h).toNat=l[p]?.getD 0:=by
 have h2:p<l.length:=by rw[za4]at h;exact h
 have e:((zag l)[p]'h)=UInt8.ofNat (l[p]):=by
  show((zag l).data[p]'_)=_;simp[zag]
 rw[e,List.getElem?_eq_getElem h2];simpa using Nat.mod_eq_of_lt (hl _ (List.getElem_mem h2))
theorem zsa(c:Nat):(decide ((33:Int)≤(c:Int))&&decide ((c:Int)≤126)&&((c:Int) !=46))=labB c:=by
 unfold labB;rw[show decide ((33:Int)≤(c:Int))=decide (33≤c)from decide_eq_decide.2 (by omega),show decide ((c:Int)≤126)=decide (c≤126)from decide_eq_decide.2 (by omega)];congr 1;rw[bne,show((c:Int)==46)=(c==46)from by rw[Bool.eq_iff_iff,beq_iff_eq,beq_iff_eq];omega]
theorem zjz(c:Nat)(h:127≤c):labB c=false:=by
 unfold labB;rw[show decide (c≤126)=false from decide_eq_false (by omega)];simp
theorem fall(w:World)(l:List Nat)(hl:∀b∈l,b<256):Calls prog 259 #[.string (zag l),.func (.func 260) #[] #[]] w fun e w'=>e= .returned (.bool (l.all labB))∧Fr [] w w':=by
 have HF:=hid (fun W (r:Nat)=>z04 W r (labB r) (zsa r));have HS:=hid (za4 l);have HAt:=hid (zc4 l hl);have HA:=hid (show∀p,p<l.length→l[p]?=some (l[p]?.getD 0)from fun p hp=>by rw[List.getElem?_eq_getElem hp];rfl);obtain⟨s,hs⟩:∃s,zag l=s:=⟨_,rfl⟩;rw[hs]at HS HAt⊢;clear hs;go_enter func259,ntmps259;go_wp2_with fail;go_loopw [] (fun wr=>∃(pos:Nat),pos≤l.length∧(∀i,i<pos→labB (l[i]?.getD 0)=true)∧wr.heap[w.heap.size]?=some (.stringIter s pos)∧Fr [] w wr) (fun wr=>s.size-wr.iterPos w.heap.size)
 case atStart=>
  exact⟨0,Nat.zero_le _,fun i hi=>absurd hi (Nat.not_lt_zero _),World.iter_heap w s 0,(Fr.refl _ _).alloc _⟩
 case round=>
  obtain⟨pos,hpl,hbe,hit,hF⟩:=hrel;have HB:=hid hbe;have HFr:=hid hF;by_cases hp:pos<s.size
  ·have hpl2:pos<l.length:=by have:=HS.out;omega
   have hby:=HAt.out pos hp;have hval:=HA.out pos hpl2;by_cases ha:(s[pos]'hp).toNat<128
   ·have hnx:∀ty,(Instr.next (.pointer (some ⟨w.heap.size,0,none⟩)) true ty).run prog wr=_:=fun ty=>Lib.run_next_ascii_at wr w.heap.size s pos ty hit hp ha
    rw[hby]at hnx;generalize l[pos]?.getD 0=c at*;have hF2:=hid (HFr.out.iterAt (Nat.le_refl _) s (pos+1));have hit2:=hid (Lib.iterAt_heap wr w.heap.size s pos (pos+1) hit);have hit1:=hid hit;have hfc:=HF.out (wr.iterAt w.heap.size s (pos+1)) c;have HV:=hid hval;clear hbe hF hit hby hval;cases hc:labB c with
    |true=>
     rw[hc]at hfc;go_wp2_with fail;with_reducible refine hfc.mono ?_
     rintro e w1 ⟨rfl,rfl⟩;go_wp2_with fail;go_roundw
     case rel=>exact⟨pos+1,hpl2,fun i hi=>by
      rcases Nat.lt_or_ge i pos with h|h
      ·exact HB.out i h
      ·obtain rfl:i=pos:=by omega
       rw[HV.out];exact hc,hit2.out,hF2.out⟩
     case measure=>
      simp only[World.iterPos,hit2.out,hit1.out];omega
    |false=>
     rw[hc]at hfc;go_wp2_with fail;with_reducible refine hfc.mono ?_
     rintro e w1 ⟨rfl,rfl⟩;go_wp2_with fail;go_ret;have hE:l.all labB=false:=List.all_eq_false.2 ⟨c,List.mem_of_getElem? HV.out,by rw[hc];decide⟩;rw[hE];exact⟨rfl,hF2.out⟩
   ·have hh:=decode_high s pos hp (by omega)
    have hnx:∀ty,(Instr.next (.pointer (some ⟨w.heap.size,0,none⟩)) true ty).run prog wr=_:=fun ty=>Lib.run_next_any_at wr w.heap.size s pos ty hit hp;have hF2:=hid (HFr.out.iterAt (Nat.le_refl _) s (pos+(Utf8.decode s pos).2));have hfc:=HF.out (wr.iterAt w.heap.size s (pos+(Utf8.decode s pos).2)) (Utf8.decode s pos).1;rw[zjz _ (by omega)]at hfc;have HV:=hid (And.intro hval (show labB (l[pos]?.getD 0)=false from zjz _ (by omega)));clear hbe hF hit hby hval hh ha;go_wp2_with fail;with_reducible refine hfc.mono ?_
    rintro e w1 ⟨rfl,rfl⟩;go_wp2_with fail;go_ret;have hE:l.all labB=false:=List.all_eq_false.2 ⟨_,List.mem_of_getElem? HV.out.1,by rw[HV.out.2];decide⟩;rw[hE];exact⟨rfl,hF2.out⟩
  ·have hnx:∀ty,(Instr.next (.pointer (some ⟨w.heap.size,0,none⟩)) true ty).run prog wr=_:=fun ty=>Lib.run_next_end_at wr w.heap.size s pos ty hit hp
   have HE:=hid (show l.all labB=true from by
    rw[List.all_eq_true];intro x hx;obtain⟨i,hi,rfl⟩:=List.mem_iff_getElem.1 hx;have:=hbe i (by have:=HS.out;omega);rw[List.getElem?_eq_getElem hi]at this;exact this)
   clear hbe hF;go_wp2_with fail;go_ret;rw[HE.out];exact⟨rfl,HFr.out⟩
theorem zn1(w:World)(l:List Nat)(hl:∀b∈l,b<256):Calls prog 191 #[.string (zag l)] w fun e w'=>e= .returned (.int .i64 (if zap l then 0 else 20))∧Fr [] w w':=by
 have ha:=fun W=>fall W l hl;have hs:=za4 l;unfold zap;by_cases h1:l.length<1
 ·have b1:decide (((zag l).size:Int)<1)=true:=decide_eq_true (by rw[hs];omega)
  have b1':decide ((zag l).size<1)=true:=decide_eq_true (by rw[hs];omega);rw[show decide (1≤l.length)=false from decide_eq_false (by omega)];clear hs;generalize zag l=s at*;go_enter func191,ntmps191;go_wp2_with fail;go_ret;exact⟨rfl,Fr.refl _ _⟩
 ·have b1:decide (((zag l).size:Int)<1)=false:=decide_eq_false (by rw[hs];omega)
  have b1':decide ((zag l).size<1)=false:=decide_eq_false (by rw[hs];omega);rw[show decide (1≤l.length)=true from decide_eq_true (by omega)];by_cases h2:63<l.length
  ·have b2:decide ((63:Int)<((zag l).size:Int))=true:=decide_eq_true (by rw[hs];omega)
   have b2':decide (63<(zag l).size)=true:=decide_eq_true (by rw[hs];omega);rw[show decide (l.length≤63)=false from decide_eq_false (by omega)];clear hs;generalize zag l=s at*;go_enter func191,ntmps191;go_wp2_with fail;go_ret;exact⟨rfl,Fr.refl _ _⟩
  ·have b2:decide ((63:Int)<((zag l).size:Int))=false:=decide_eq_false (by rw[hs];omega)
   have b2':decide (63<(zag l).size)=false:=decide_eq_false (by rw[hs];omega);rw[show decide (l.length≤63)=true from decide_eq_true (by omega)];clear hs;generalize zag l=s at*;generalize l.all labB=q at*;cases q
   ·go_enter func191,ntmps191
    go_wp2_with fail;with_reducible refine(ha _).mono ?_
    rintro e w1 ⟨rfl,f1⟩;go_wp2_with fail;go_ret;exact⟨rfl,f1⟩
   ·go_enter func191,ntmps191
    go_wp2_with fail;with_reducible refine(ha _).mono ?_
    rintro e w1 ⟨rfl,f1⟩;go_wp2_with fail;go_ret;exact⟨rfl,f1⟩
def lowB(c:Nat):Nat:=if c<65∨90<c then c else c+32
theorem zfe{c:Nat}(h:c<256):lowB c<256:=by unfold lowB;split<;>omega
theorem zxs(w:World)(c:Nat)(hc:c<256):Calls prog 287 #[.int .u8 c] w fun e w'=>e= .returned (.int .u8 (lowB c))∧w'=w:=by
 unfold lowB;by_cases h1:c<65
 ·have b1:decide ((c:Int)<65)=true:=decide_eq_true (by omega)
  have b1':decide (c<65)=true:=decide_eq_true h1;rw[if_pos (.inl h1)];go_enter func287,ntmps287;go_wp2_with fail;go_ret;exact⟨rfl,rfl⟩
 ·have b1:decide ((c:Int)<65)=false:=decide_eq_false (by omega)
  have b1':decide (c<65)=false:=decide_eq_false h1;by_cases h2:90<c
  ·have b2:decide ((90:Int)<(c:Int))=true:=decide_eq_true (by omega)
   have b2':decide (90<c)=true:=decide_eq_true h2;rw[if_pos (.inr h2)];go_enter func287,ntmps287;go_wp2_with fail;go_ret;exact⟨rfl,rfl⟩
  ·have b2:decide ((90:Int)<(c:Int))=false:=decide_eq_false (by omega)
   have b2':decide (90<c)=false:=decide_eq_false h2
   have w1:IntKind.u8.wrap ((c:Int)+32)=((c+32:Nat):Int):=by
    show((c:Int)+32) %256=_;omega
   rw[if_neg (by omega)];go_enter func287,ntmps287;go_wp2_with fail;go_ret;exact⟨rfl,rfl⟩
section
open Go.Shelf Go.RowKit
def zk4:Go.Shelf.Ren:=⟨fun|165=>280|167=>286|169=>282|240=>292|241=>293|276=>296|277=>297|n=>n,fun|0=>0|3=>3|4=>4|5=>5|9=>9|20=>20|37=>44|70=>301|72=>303|75=>305|80=>308|127=>313|164=>315|n=>n,fun|n=>n⟩
theorem zur:Go.Proofs.Lays.n165 prog zk4:={
 mixed:=by kernel_rfl
 f165:=func280.trans (congrArg some (by kernel_rfl))
 f240:=func292.trans (congrArg some (by kernel_rfl))
 f241:=func293.trans (congrArg some (by kernel_rfl))
 f276:=func296.trans (congrArg some (by kernel_rfl))
 f277:=func297.trans (congrArg some (by kernel_rfl))
 t0:=underlying0
 a0:=Tryz.isAgg0
 z0:=Tryz.sizeOf0
 v0:=Tryz.zeroValue0
 t3:=underlying3
 a3:=Tryz.isAgg3
 z3:=Tryz.sizeOf3
 v3:=Tryz.zeroValue3
 t4:=underlying4
 a4:=Tryz.isAgg4
 z4:=Tryz.sizeOf4
 v4:=Tryz.zeroValue4
 t9:=underlying9
 a9:=Tryz.isAgg9
 z9:=Tryz.sizeOf9
 v9:=Tryz.zeroValue9
 t20:=underlying20
 a20:=Tryz.isAgg20
 z20:=Tryz.sizeOf20
 v20:=Tryz.zeroValue20
 t37:=underlying44
 a37:=Tryz.isAgg44
 z37:=Tryz.sizeOf44
 v37:=Tryz.zeroValue44
 t70:=underlying301
 a70:=Tryz.isAgg301
 z70:=Tryz.sizeOf301
 v70:=Tryz.zeroValue301
 t72:=underlying303
 a72:=Tryz.isAgg303
 z72:=Tryz.sizeOf303
 v72:=Tryz.zeroValue303
 t164:=underlying315
 a164:=Tryz.isAgg315
 z164:=Tryz.sizeOf315
 v164:=Tryz.zeroValue315}
theorem zsf:Go.Proofs.Lays.n167 prog zk4:={
 mixed:=by kernel_rfl
 f167:=func286.trans (congrArg some (by kernel_rfl))
 f240:=func292.trans (congrArg some (by kernel_rfl))
 f276:=func296.trans (congrArg some (by kernel_rfl))
 t0:=underlying0
 a0:=Tryz.isAgg0
 z0:=Tryz.sizeOf0
 v0:=Tryz.zeroValue0
 t4:=underlying4
 a4:=Tryz.isAgg4
 z4:=Tryz.sizeOf4
 v4:=Tryz.zeroValue4
 t5:=underlying5
 a5:=Tryz.isAgg5
 z5:=Tryz.sizeOf5
 v5:=Tryz.zeroValue5
 t9:=underlying9
 a9:=Tryz.isAgg9
 z9:=Tryz.sizeOf9
 v9:=Tryz.zeroValue9
 t20:=underlying20
 a20:=Tryz.isAgg20
 z20:=Tryz.sizeOf20
 v20:=Tryz.zeroValue20
 t37:=underlying44
 a37:=Tryz.isAgg44
 z37:=Tryz.sizeOf44
 v37:=Tryz.zeroValue44
 t70:=underlying301
 a70:=Tryz.isAgg301
 z70:=Tryz.sizeOf301
 v70:=Tryz.zeroValue301
 t72:=underlying303
 a72:=Tryz.isAgg303
 z72:=Tryz.sizeOf303
 v72:=Tryz.zeroValue303
 t75:=underlying305
 a75:=Tryz.isAgg305
 z75:=Tryz.sizeOf305
 v75:=Tryz.zeroValue305
 t164:=underlying315
 a164:=Tryz.isAgg315
 z164:=Tryz.sizeOf315
 v164:=Tryz.zeroValue315}
theorem zmj:Go.Proofs.Lays.n169 prog zk4:={
 mixed:=by kernel_rfl
 f169:=func282.trans (congrArg some (by kernel_rfl))
 t0:=underlying0
 a0:=Tryz.isAgg0
 z0:=Tryz.sizeOf0
 v0:=Tryz.zeroValue0
 t3:=underlying3
 a3:=Tryz.isAgg3
 z3:=Tryz.sizeOf3
 v3:=Tryz.zeroValue3
 t9:=underlying9
 a9:=Tryz.isAgg9
 z9:=Tryz.sizeOf9
 v9:=Tryz.zeroValue9
 t37:=underlying44
 a37:=Tryz.isAgg44
 z37:=Tryz.sizeOf44
 v37:=Tryz.zeroValue44
 t70:=underlying301
 a70:=Tryz.isAgg301
 z70:=Tryz.sizeOf301
 v70:=Tryz.zeroValue301
 t72:=underlying303
 a72:=Tryz.isAgg303
 z72:=Tryz.sizeOf303
 v72:=Tryz.zeroValue303
 t127:=underlying313
 a127:=Tryz.isAgg313
 z127:=Tryz.sizeOf313
 v127:=Tryz.zeroValue313}
theorem zgq:Builder.Extra prog zk4:={
 sizeBuilder:=by kernel_rfl
 liesBuilder:=by kernel_rfl
 t5:=underlying5
 a5:=Tryz.isAgg5
 z5:=Tryz.sizeOf5
 v5:=Tryz.zeroValue5
 infoByte:=by kernel_rfl
 cellsByte:=by kernel_rfl
 sizeByte:=by kernel_rfl
 neB5:=by decide}
theorem zik(l:List Nat)(hl:∀b∈l,b<256):Lib.byteCells (l.map UInt8.ofNat)=zaj l:=by
 unfold Lib.byteCells zaj;rw[List.map_map];refine List.map_congr_left fun b hb=> ?_;show Value.int .u8 (((UInt8.ofNat b).toNat:Nat):Int)=_;rw[show(UInt8.ofNat b).toNat=b from by simpa using Nat.mod_eq_of_lt (hl b hb)]
theorem zqf (w : World) (l : List Nat) (hl : ∀ b ∈ l, b < 256) (hlen : l.length ≤ 1048576) : Calls prog 263 #[.string (zag l)] w fun e w' => e = .returned (.string (zag (l.map lowB))) ∧ Fr [] w w' := by
  have HS := hid (za4 l)
  have HSm := hid (fun W (c : Nat) (hc : c < 256) => zxs W c hc)
  have HAt := hid (zc4 l hl)
  have hG := (show Calls prog 280 #[.pointer (some ⟨w.heap.size, 0, none⟩), .int .i64 l.length] (w.alloc (.cells #[.pointer none, .slice none 0 0] 303)) fun e w' => e = .returned (.tuple #[]) ∧ (Lib.BuilderAt 303 5 w.heap.size w.heap.size (.pointer (some ⟨w.heap.size, 0, none⟩)) [] w' ∧ Below w.heap.size (w.alloc (.cells #[.pointer none, .slice none 0 0] 303)) w') from
    Any.Builder_Grow_fresh zur zgq w.heap.size w.heap.size l.length (w.alloc (.cells #[.pointer none, .slice none 0 0] 303)) (Nat.le_refl _) (Blk.new w _ _) (by simp) (by omega))
  have HW := hid (fun W (c : Int) bs (h : Lib.BuilderAt 303 5 w.heap.size w.heap.size (.pointer (some ⟨w.heap.size, 0, none⟩)) bs W) (hbs : bs.length ≤ 2000000) => (show Calls prog 286 #[.pointer (some ⟨w.heap.size, 0, none⟩), .int .u8 c] W fun e w' => e = .returned .nilIface ∧ (Lib.BuilderAt 303 5 w.heap.size w.heap.size (.pointer (some ⟨w.heap.size, 0, none⟩)) (bs ++ [.int .u8 c]) w' ∧ Below w.heap.size W w') from
    Any.Builder_WriteByte zsf zgq w.heap.size w.heap.size bs c W (.inr h) (by omega) (Nat.le_of_lt h.lt)))
  have HStr := hid (fun W (m : List UInt8) (h : Lib.BuilderAt 303 5 w.heap.size w.heap.size (.pointer (some ⟨w.heap.size, 0, none⟩)) (Lib.byteCells m) W) => (show Calls prog 282 #[.pointer (some ⟨w.heap.size, 0, none⟩)] W fun e w' => e = .returned (.string ⟨m.toArray⟩) ∧ Below w.heap.size W w' from
    Any.Builder_String_any zmj zgq w.heap.size w.heap.size m W (.inr h) (Nat.le_of_lt h.lt)))
  have HL := hid hlen
  have B0 := hid (show Below w.heap.size w (w.alloc (.cells #[.pointer none, .slice none 0 0] 303)) from (Below.refl _ w).alloc (Nat.le_refl _) _)
  obtain ⟨s, hs⟩ : ∃ s, zag l = s := ⟨_, rfl⟩
  rw [hs] at HS HAt ⊢
  clear hs hlen
  have HTk := hid (fun k c (h : l[k]? = some c) => (show zaj ((l.take (k + 1)).map lowB) = zaj ((l.take k).map lowB) ++ [.int .u8 (lowB c : Nat)] from by
    rw [List.take_add_one, h, Option.toList_some, List.map_append]
    unfold zaj
    rw [List.map_append]
    rfl))
  have HTl := hid (fun k => (show (zaj ((l.take k).map lowB)).length ≤ l.length from by unfold zaj; simp; omega))
  have HFin := hid (show zaj ((l.take l.length).map lowB) = Lib.byteCells ((l.map lowB).map UInt8.ofNat) from by
    rw [List.take_length, zik _ (fun b hb => by obtain ⟨x, hx, rfl⟩ := List.mem_map.1 hb; exact zfe (hl x hx))])
  have HLt := hid (show ∀ k c, l[k]? = some c → c < 256 from fun k c h => hl c (List.mem_of_getElem? h))
  clear hl
  generalize hn : l.length = n at *
  have HNn := hid hn
  clear hn
  have hsz : (s.size : Int) = n := by rw [HS.out]
  have hsz' : s.size = n := HS.out
  go_enter func263, ntmps263
  go_wp2_with fail
  with_reducible refine hG.mono ?_
  rintro e w1 ⟨rfl, hb1, f1⟩
  have HB1 := hid hb1
  have F1 := hid (B0.out.trans f1)
  clear hG hb1 f1
  go_wp2_with fail
  go_loopw [10] (fun v W => ∃ k : Nat, k ≤ n ∧ v = .int .i64 k ∧ Lib.BuilderAt 303 5 w.heap.size w.heap.size (.pointer (some ⟨w.heap.size, 0, none⟩)) (zaj ((l.take k).map lowB)) W ∧ Below w.heap.size w W) (fun v _ => n - (intOf v).toNat)
  case atStart => exact ⟨0, Nat.zero_le _, rfl, HB1.out, F1.out⟩
  case round =>
    obtain ⟨k, hk, rfl, hbk, hfk⟩ := hrel
    have HBk := hid hbk
    have HFk := hid hfk
    clear hbk hfk
    by_cases hlt : k < n
    · obtain ⟨c, hc⟩ : ∃ c, l[k]? = some c := ⟨_, List.getElem?_eq_getElem (by rw [HNn.out]; exact hlt)⟩
      have hc2 := HLt.out k c hc
      have b0' : decide (k < n) = true := decide_eq_true hlt
      have wk : IntKind.i64.wrap ((k : Int) + 1) = (k : Int) + 1 := i64_in _ (by have := HL.out; omega)
      have hks : k < s.size := by omega
      have hat := HAt.out k hks
      rw [hc] at hat
      simp only [Option.getD_some] at hat
      have HC := hid hc
      clear hc
      go_wp2_with fail
      with_reducible refine (HSm.out _ c hc2).mono ?_
      rintro e w2 ⟨rfl, rfl⟩
      go_wp2_with fail
      with_reducible refine (HW.out _ (lowB c : Nat) _ HBk.out (by have := HTl.out k; have := HL.out; omega)).mono ?_
      rintro e w3 ⟨rfl, hb3, f3⟩
      have HB3 := hid hb3
      have F3 := hid (HFk.out.trans f3)
      clear hb3 f3
      go_wp2_with fail
      go_roundw
      case rel => exact ⟨k + 1, by omega, by go_num, by rw [HTk.out k c HC.out]; exact HB3.out, F3.out⟩
      case measure => simp [intOf]; omega
    · obtain rfl : k = n := by omega
      have b0' : decide (k < k) = false := decide_eq_false (by omega)
      have hst := HStr.out wr ((l.map lowB).map UInt8.ofNat) (by rw [← HFin.out]; exact HBk.out)
      go_wp2_with fail
      with_reducible refine hst.mono ?_
      rintro e w2 ⟨rfl, f2⟩
      go_wp2_with fail
      go_ret
      rw [show zag (l.map lowB) = ⟨(List.map (UInt8.ofNat ∘ lowB) l).toArray⟩ from by unfold zag; rw [List.map_map]]
      exact ⟨rfl, Fr.of_below (HFk.out.trans f2)⟩
end
theorem zrp(z:Int):((z %4294967296).toNat:Int)=z %4294967296:=Int.toNat_of_nonneg (Int.emod_nonneg _ (by decide))
theorem zwc(z:Int):(z %4294967296).toNat<4294967296:=by
 have:=Int.emod_lt_of_pos z (show(0:Int)<4294967296 by decide);have:=Int.emod_nonneg z (show(4294967296:Int)≠0 by decide);omega
def zva(z:Int):Nat:=(z*16777619 %4294967296).toNat
theorem zs0(z:Int):((zva z:Nat):Int)=z*16777619 %4294967296:=zrp _
theorem zq7(z:Int):zva z<4294967296:=zwc _
def zgn(h b:Nat):Nat:=zva (bits BinOp.xor IntKind.u32 (h:Int) ((b:Int) %4294967296))
theorem zkg(h b:Nat):zgn h b<4294967296:=zq7 _
theorem zzf(w:World)(h b z:Int)(hz:bits BinOp.xor IntKind.u32 h (b %4294967296)=z)(u:Int)(hu:z*16777619 %4294967296=u):Calls prog 294 #[.int .u32 h,.int .u8 b] w fun e w'=>e= .returned (.int .u32 u)∧w'=w:=by
 go_enter func294,ntmps294;go_wp2_with fail;go_ret;rw[hu];exact⟨rfl,rfl⟩
theorem zxn(w:World)(h b:Nat):Calls prog 294 #[.int .u32 h,.int .u8 b] w fun e w'=>e= .returned (.int .u32 (zgn h b))∧w'=w:=
 zzf w h b _ rfl _ (zs0 _).symm
def mixS(h:Nat)(l:List Nat):Nat:=l.foldl zgn h
def mixL(h:Nat)(l:List Nat):Nat:=zgn (mixS h l) 46
theorem zqk(h:Nat)(l:List Nat):mixL h l<4294967296:=zkg _ _
theorem z1p(w:World)(h:Nat)(l:List Nat)(hl:∀b∈l,b<256)(hlen:l.length≤1048576):Calls prog 288 #[.int .u32 h,.string (zag l)] w fun e w'=>e= .returned (.int .u32 (mixS h l))∧w'=w:=by
 have HS:=hid (za4 l);have HAt:=hid (zc4 l hl);obtain⟨M,hM⟩:∃M:Nat→Nat,∀k,mixS h (l.take k)=M k:=⟨_,fun _=>rfl⟩;obtain⟨S,hS⟩:∃S:Nat→Nat→Nat,∀a b,zgn a b=S a b:=⟨_,fun _ _=>rfl⟩
 have HTk:=hid (fun k c (hc:l[k]?=some c)=>(show M (k+1)=S (M k) c from by
  rw[←hM,←hM,←hS];unfold mixS;rw[List.take_add_one,hc,Option.toList_some,List.foldl_append,List.foldl_cons,List.foldl_nil]))
 have HFin:=hid (show M l.length=mixS h l from by rw[←hM,List.take_length]);have HM0:=hid (show M 0=h from by rw[←hM,List.take_zero];exact List.foldl_nil);have HSt:=hid (show∀W a b,Calls prog 294 #[.int .u32 (a:Nat),.int .u8 (b:Nat)] W fun e w'=>e= .returned (.int .u32 (S a b))∧w'=W from fun W a b=>by rw[←hS];exact zxn W a b);obtain⟨R,hR⟩:∃R,mixS h l=R:=⟨_,rfl⟩;rw[hR]at HFin⊢;clear hR hM hS;obtain⟨s,hs⟩:∃s,zag l=s:=⟨_,rfl⟩;rw[hs]at HS HAt⊢;clear hs hl;generalize hn:l.length=n at*;have HNn:=hid hn;clear hn;have hsz:(s.size:Int)=n:=by rw[HS.out]
 have hsz':s.size=n:=HS.out;go_enter func288,ntmps288;go_wp2_with fail;go_loopw [0,8] (fun u v W=>∃k:Nat,k≤n∧v= .int .i64 k∧u= .int .u32 (M k)∧W=w) (fun _ v _=>n-(intOf v).toNat);case atStart=>exact⟨0,Nat.zero_le _,rfl,by rw[HM0.out],rfl⟩
 case round=>
  obtain⟨k,hk,rfl,rfl,rfl⟩:=hrel;by_cases hlt:k<n
  ·obtain⟨c,hc⟩:∃c,l[k]?=some c:=⟨_,List.getElem?_eq_getElem (by rw[HNn.out];exact hlt)⟩
   have b0':decide (k<n)=true:=decide_eq_true hlt;have wk:=i64_in ((k:Int)+1) (by omega);have hks:k<s.size:=by omega
   have hat:=HAt.out k hks;rw[hc]at hat;simp only[Option.getD_some]at hat;have HC:=hid (HTk.out k c hc);clear hc;go_wp2_with fail;with_reducible refine(HSt.out _ (M k) c).mono ?_
   rintro e w2 ⟨rfl,rfl⟩;go_wp2_with fail;go_roundw;case rel=>exact⟨k+1,by omega,by go_num,by rw[HC.out],trivial⟩
   case measure=>simp[intOf];omega
  ·obtain rfl:k=n:=by omega
   have b0':decide (k<k)=false:=decide_eq_false (by omega);go_wp2_with fail;go_ret;rw[HFin.out];exact⟨rfl,rfl⟩
theorem ztj(w:World)(h:Nat)(ad:Option Addr)(cp:Nat)(l:List Nat)(hb:Byt w ad l)(hlen:l.length≤1048576):Calls prog 283 #[.int .u32 h,.slice ad l.length cp] w fun e w'=>e= .returned (.int .u32 (mixS h l))∧w'=w:=by
 have HAt:=hid hb.at_;obtain⟨M,hM⟩:∃M:Nat→Nat,∀k,mixS h (l.take k)=M k:=⟨_,fun _=>rfl⟩;obtain⟨S,hS⟩:∃S:Nat→Nat→Nat,∀a b,zgn a b=S a b:=⟨_,fun _ _=>rfl⟩
 have HTk:=hid (fun k c (hc:l[k]?=some c)=>(show M (k+1)=S (M k) c from by
  rw[←hM,←hM,←hS];unfold mixS;rw[List.take_add_one,hc,Option.toList_some,List.foldl_append,List.foldl_cons,List.foldl_nil]))
 have HFin:=hid (show M l.length=mixS h l from by rw[←hM,List.take_length]);have HM0:=hid (show M 0=h from by rw[←hM,List.take_zero];exact List.foldl_nil);have HSt:=hid (show∀W a b,Calls prog 294 #[.int .u32 (a:Nat),.int .u8 (b:Nat)] W fun e w'=>e= .returned (.int .u32 (S a b))∧w'=W from fun W a b=>by rw[←hS];exact zxn W a b);obtain⟨R,hR⟩:∃R,mixS h l=R:=⟨_,rfl⟩;rw[hR]at HFin⊢;clear hR hM hS hb;generalize hn:l.length=n at*;have HNn:=hid hn;clear hn;go_enter func283,ntmps283;go_wp2_with fail;go_loopw [0,8] (fun u v W=>∃k:Nat,k≤n∧v= .int .i64 k∧u= .int .u32 (M k)∧W=w) (fun _ v _=>n-(intOf v).toNat);case atStart=>exact⟨0,Nat.zero_le _,rfl,by rw[HM0.out],rfl⟩
 case round=>
  obtain⟨k,hk,rfl,rfl,rfl⟩:=hrel;by_cases hlt:k<n
  ·obtain⟨c,hc⟩:∃c,l[k]?=some c:=⟨_,List.getElem?_eq_getElem (by rw[HNn.out];exact hlt)⟩
   obtain⟨g,o,rfl,hat,-⟩:=HAt.out k hlt;have b0':decide (k<n)=true:=decide_eq_true hlt;have wk:=i64_in ((k:Int)+1) (by omega);have i0:(0:Int)≤k:=by omega
   have i1:(k:Int)<n:=by omega
   rw[hc]at hat;simp only[Option.getD_some]at hat;have HC:=hid (HTk.out k c hc);clear hc;go_wp2_with fail;with_reducible refine(HSt.out _ (M k) c).mono ?_
   rintro e w2 ⟨rfl,rfl⟩;go_wp2_with fail;go_roundw;case rel=>exact⟨k+1,by omega,by go_num,by rw[HC.out],trivial⟩
   case measure=>simp[intOf];omega
  ·obtain rfl:k=n:=by omega
   have b0':decide (k<k)=false:=decide_eq_false (by omega);go_wp2_with fail;go_ret;rw[HFin.out];exact⟨rfl,rfl⟩
theorem zvy(w:World)(h c:Nat)(hc:c<256)(g:Nat)(hb:Blk w g 5 #[.int .u8 c]):Calls prog 237 #[.int .u32 h,.slice (some ⟨g,0,none⟩) 1 1] w fun e w'=>e= .returned (.int .u32 (zgn h c))∧w'=w:=by
 have hby:Byt w (some ⟨g,0,none⟩) [c] :=⟨fun i hi=>by
  obtain rfl:i=0:=by simp at hi;omega
  exact⟨g,0,rfl,hb.cell 0,hb.lt⟩,fun b hm=>by rw[List.mem_singleton.1 hm];exact hc,by simp⟩
 have ht:=(show Calls prog 283 #[.int .u32 h,.slice (some ⟨g,0,none⟩) 1 1] w fun e w'=>e= .returned (.int .u32 (zgn h c))∧w'=w from by
  have:=ztj w h _ 1 [c] hby (by simp);unfold mixS at this;rw[List.foldl_cons,List.foldl_nil]at this;exact this)
 generalize zgn h c=r at*;clear hby hb;go_enter func237,ntmps237;go_wp2_with fail;with_reducible refine ht.mono ?_
 rintro e w2 ⟨rfl,rfl⟩;go_wp2_with fail;go_ret;exact⟨rfl,rfl⟩
theorem xlab(w:World)(h:Nat)(l:List Nat)(hl:∀b∈l,b<256)(hlen:l.length≤1048576):Calls prog 264 #[.int .u32 h,.string (zag l)] w fun e w'=>e= .returned (.int .u32 (mixL h (l.map lowB)))∧Fr [] w w':=by
 have hlo:=fun W=>zqf W l hl hlen;have hth:=hid (fun W=>z1p W h (l.map lowB) (fun b hb=>by obtain⟨x,hx,rfl⟩:=List.mem_map.1 hb;exact zfe (hl x hx)) (by rw[List.length_map];exact hlen));have hst:=hid (fun W g (hB:Blk W g 5 #[.int .u8 46])=>(show Calls prog 237 #[.int .u32 (mixS h (l.map lowB)),.slice (some ⟨g,0,none⟩) 1 1] W fun e w'=>e= .returned (.int .u32 (mixL h (l.map lowB)))∧w'=W from zvy W (mixS h (l.map lowB)) 46 (by decide) g hB));generalize mixL h (l.map lowB)=R at*;generalize mixS h (l.map lowB)=M at*;generalize zag (l.map lowB)=s2 at*;generalize zag l=s at*;clear hl hlen;go_enter func264,ntmps264;go_wp2_with fail;with_reducible refine(hlo _).mono ?_
 rintro e w1 ⟨rfl,f1⟩;have F1:=hid f1;go_wp2_with fail;with_reducible refine(hth.out _).mono ?_
 rintro e w2 ⟨rfl,rfl⟩;have hs:=hst.out _ _ (Blk.new w2 5 #[.int .u8 46]);go_wp2_with fail;with_reducible refine hs.mono ?_
 rintro e w3 ⟨rfl,rfl⟩;go_wp2_with fail;go_ret;exact⟨rfl,F1.out.alloc _⟩
theorem zwy(w:World):Calls prog 238 #[.slice none 0 0] w fun e w'=>e= .returned (.int .u32 2166136261)∧w'=w:=by
 go_enter func238,ntmps238;go_wp2_with fail;go_loopw [3,7] (fun u v W=>u= .int .u32 2166136261∧v= .int .i64 0∧W=w) (fun _ _ _=>0);case atStart=>exact⟨rfl,rfl,rfl⟩
 case round=>
  obtain⟨rfl,rfl,rfl⟩:=hrel;go_wp2_with fail;go_ret;exact⟨rfl,rfl⟩
end Go.Proofs.YtolhkhdbgnciiaaGreatDoor
