/- Several texts in one. -/
import Derived.Test.YtolhkhdbgnciiaaGreatDoorMA
namespace Go.Proofs.YtolhkhdbgnciiaaGreatDoor
open _root_.Go.Proofs.Tryz
open Go.Lib (hid)
open Go.IntWalk (i64_in)
set_option linter.unusedVariables false
set_option linter.unusedSimpArgs false
open Go.RowKit
set_option maxRecDepth 100000
set_option maxHeartbeats 2000000
section
open Go.ChangeShapes Go.WideShapes Go.ChangeAt Go.RowKit
structure StrA(w:World)(a:Option Addr)(l:List (List Nat)):Prop where
 at_: ∀i,i<l.length→ ∃g o,a=some ⟨g,o,none⟩∧w.cell? ⟨g,o+i,none⟩=some (.string (zag (l[i]?.getD [])))∧g<w.heap.size
 lt: ∀s∈l,∀b∈s,b<256
 each: ∀s∈l,s.length≤9223372036854775807
 len:l.length≤9223372036854775807
theorem StrA.fr{w w':World}{a:Option Addr}{l:List (List Nat)}(h:StrA w a l)(hf:Fr [] w w'):StrA w' a l:=
 ⟨fun i hi=>by
  obtain⟨g,o,ha,hc,hg⟩:=h.at_ i hi;exact⟨g,o,ha,(hf.cell (p:=⟨g,o+i,none⟩) hg (by simp)).trans hc,Nat.lt_of_lt_of_le hg hf.size⟩,h.lt,h.each,h.len⟩
end
section
open Go.ChangeShapes Go.WideShapes Go.ChangeAt Go.RowKit
end
section
open Go.ChangeShapes Go.WideShapes Go.ChangeAt Go.RowKit
structure A21 where
 k:Int
 n:Int
 s:List Nat
def A21.cells(d:A21):List Value:= [.int .i64 d.k,.int .i64 d.n,.string (zag d.s)]
structure A21.Ok(d:A21):Prop where
 k: -9223372036854775808≤d.k∧d.k≤9223372036854775807
 n: -9223372036854775808≤d.n∧d.n≤9223372036854775807
 b: ∀y∈d.s,y<256
 l:d.s.length≤9223372036854775807
end
theorem z05(w:World)(c:Nat)(hc:c<256):Calls prog 289 #[.int .u8 c] w fun e w'=>e= .returned (.int .u8 (lowB c))∧w'=w:=by
 by_cases h1:65≤c
 ·by_cases h2:c≤90
  ·have e:lowB c=c+32:=by unfold lowB;rw[if_neg (by omega)]
   rw[e];have b1:decide ((65:Int)≤(c:Int))=true:=decide_eq_true (by omega);have b1':decide (65≤c)=true:=decide_eq_true (by omega);have b2:decide ((c:Int)≤90)=true:=decide_eq_true (by omega);have b2':decide (c≤90)=true:=decide_eq_true (by omega);have w1:IntKind.u8.wrap ((c:Int)+32)=((c+32:Nat):Int):=by show((c:Int)+32) %256=_;omega
   go_enter func289,ntmps289;go_wp2_with fail;go_ret;exact⟨rfl,rfl⟩
  ·have e:lowB c=c:=by unfold lowB;rw[if_pos (by omega)]
   rw[e];have b1:decide ((65:Int)≤(c:Int))=true:=decide_eq_true (by omega);have b1':decide (65≤c)=true:=decide_eq_true (by omega);have b2:decide ((c:Int)≤90)=false:=decide_eq_false (by omega);have b2':decide (c≤90)=false:=decide_eq_false (by omega);go_enter func289,ntmps289;go_wp2_with fail;go_ret;exact⟨rfl,rfl⟩
 ·have e:lowB c=c:=by unfold lowB;rw[if_pos (by omega)]
  rw[e];have b1:decide ((65:Int)≤(c:Int))=false:=decide_eq_false (by omega);have b1':decide (65≤c)=false:=decide_eq_false (by omega);go_enter func289,ntmps289;go_wp2_with fail;go_ret;exact⟨rfl,rfl⟩
theorem zga{l:List Nat}(h:zap l=true):1≤l.length∧l.length≤63:=by
 unfold zap at h;rw[Bool.and_eq_true,Bool.and_eq_true,decide_eq_true_eq,decide_eq_true_eq]at h;exact h.1
theorem zog(w:World)(l:List Nat)(hl:∀b∈l,b<256)(hmx:l.length≤9223372036854775807):Calls prog 256 #[.string (zag l)] w fun e w'=>e= .returned (.int .i64 (if zap l then 0 else 20))∧w'=w:=by
 have HS:=hid (za4 l);have HAt:=hid (zc4 l hl);obtain⟨R,hR⟩:∃R:Int,(if zap l then 0 else 20)=R:=⟨_,rfl⟩
 have HBd:=hid (fun(k c:Nat) (h1:l[k]?=some c) (h2:labB c=false)=>(show(20:Int)=R from by
  rw[←hR,if_neg];intro h;unfold zap at h;rw[Bool.and_eq_true,List.all_eq_true]at h;have:=h.2 c (List.mem_of_getElem? h1);rw[h2]at this;cases this))
 have HLn:=hid (fun(h1:¬(1≤l.length∧l.length≤63))=>(show(20:Int)=R from by
  rw[←hR,if_neg];intro h;exact h1 (zga h)))
 have HOk:=hid (fun(h1:1≤l.length) (h2:l.length≤63) (h3:∀i,i<l.length→labB (l[i]?.getD 0)=true)=>(show(0:Int)=R from by
  rw[←hR,if_pos];unfold zap;rw[decide_eq_true h1,decide_eq_true h2,Bool.true_and,Bool.true_and,List.all_eq_true];intro x hx;obtain⟨i,hi,e⟩:=List.mem_iff_getElem.1 hx;have:=h3 i hi;rw[List.getElem?_eq_getElem hi,Option.getD_some,e]at this;exact this))
 rw[hR];clear hR;obtain⟨s,hs⟩:∃s,zag l=s:=⟨_,rfl⟩;rw[hs]at HS HAt⊢;clear hs;by_cases h1:1≤l.length
 ·by_cases h63:l.length≤63
  ·have hsz:s.size=l.length:=HS.out
   have b1:decide ((s.size:Int)<1)=false:=decide_eq_false (by omega);have b1':decide (s.size<1)=false:=decide_eq_false (by omega);have b1'':decide (s.size=0)=false:=decide_eq_false (by omega);have b2:decide ((63:Int)<(s.size:Int))=false:=decide_eq_false (by omega);have b2':decide (63<s.size)=false:=decide_eq_false (by omega);clear hmx;generalize hn:l.length=n at*;have HN:=hid hn;clear hn;go_enter func256,ntmps256;go_wp2_with fail;go_loopw [3] (fun v W=>∃k:Nat,k≤n∧v= .int .i64 k∧(∀i,i<k→labB (l[i]?.getD 0)=true)∧W=w) (fun v _=>n-(intOf v).toNat);case atStart=>exact⟨0,Nat.zero_le _,rfl,fun i hi=>absurd hi (Nat.not_lt_zero _),rfl⟩
   case round=>
    obtain⟨k,hk,rfl,hbe,rfl⟩:=hrel;have HB:=hid hbe;clear hbe;by_cases hlt:k<n
    ·obtain⟨c,hc⟩:∃c,l[k]?=some c:=⟨_,List.getElem?_eq_getElem (by rw[HN.out];exact hlt)⟩
     have hc256:c<256:=hl c (List.mem_of_getElem? hc);have b0':decide (k<s.size)=true:=decide_eq_true (by omega);have wk:=i64_in ((k:Int)+1) (by omega);have hks:k<s.size:=by omega
     have hat:=HAt.out k hks;rw[hc]at hat;simp only[Option.getD_some]at hat;have HC:=hid hc;clear hc;by_cases c1:c≤32
     ·have d1:decide ((c:Int)≤32)=true:=decide_eq_true (by omega)
      have d1':decide (c≤32)=true:=decide_eq_true (by omega);have HE:=hid (HBd.out k c HC.out (by unfold labB;rw[decide_eq_false (by omega)];rfl));clear HBd HLn HOk;go_wp2_with fail;go_ret;exact⟨by rw[←HE.out];rfl,rfl⟩
     ·have d1:decide ((c:Int)≤32)=false:=decide_eq_false (by omega)
      have d1':decide (c≤32)=false:=decide_eq_false (by omega);by_cases c2:126<c
      ·have d2:decide ((126:Int)<(c:Int))=true:=decide_eq_true (by omega)
       have d2':decide (126<c)=true:=decide_eq_true (by omega);have HE:=hid (HBd.out k c HC.out (zjz c (by omega)));clear HBd HLn HOk;go_wp2_with fail;go_ret;exact⟨by rw[←HE.out];rfl,rfl⟩
      ·have d2:decide ((126:Int)<(c:Int))=false:=decide_eq_false (by omega)
       have d2':decide (126<c)=false:=decide_eq_false (by omega);by_cases c3:c=46
       ·subst c3
        have HE:=hid (HBd.out k 46 HC.out (by decide));clear HBd HLn HOk;go_wp2_with fail;go_ret;exact⟨by rw[←HE.out];rfl,rfl⟩
       ·have d3:((c:Int)==46)=false:=by simp;omega
        have d3':(c==46)=false:=by simp;omega
        have HB2:=hid (show∀i,i<k+1→labB (l[i]?.getD 0)=true from fun i hi=>by
         rcases Nat.lt_or_ge i k with h|h
         ·exact HB.out i h
         ·obtain rfl:i=k:=by omega
          rw[HC.out];show labB c=true;unfold labB;rw[decide_eq_true (by omega),decide_eq_true (by omega),d3'];rfl)
        clear HBd HLn HOk;go_wp2_with fail;go_roundw;case rel=>exact⟨k+1,by omega,by go_num,HB2.out,trivial⟩
        case measure=>simp[intOf];omega
    ·obtain rfl:k=n:=by omega
     have b0':decide (k<s.size)=false:=decide_eq_false (by omega);have HE:=hid (HOk.out h1 h63 HB.out);clear HBd HLn HOk;go_wp2_with fail;go_ret;exact⟨by rw[←HE.out];rfl,rfl⟩
  ·have hsz:s.size=l.length:=HS.out
   have b1:decide ((s.size:Int)<1)=false:=decide_eq_false (by omega);have b1':decide (s.size<1)=false:=decide_eq_false (by omega);have b1'':decide (s.size=0)=false:=decide_eq_false (by omega);have b2:decide ((63:Int)<(s.size:Int))=true:=decide_eq_true (by omega);have b2':decide (63<s.size)=true:=decide_eq_true (by omega);have HE:=hid (HLn.out (by omega));clear HBd HLn HOk hmx;go_enter func256,ntmps256;go_wp2_with fail;go_ret;exact⟨by rw[←HE.out];rfl,rfl⟩
 ·have hsz:s.size=l.length:=HS.out
  have b1:decide ((s.size:Int)<1)=true:=decide_eq_true (by omega);have b1':decide (s.size<1)=true:=decide_eq_true (by omega);have b1'':decide (s.size=0)=true:=decide_eq_true (by omega);have HE:=hid (HLn.out (by omega));clear HBd HLn HOk hmx;go_enter func256,ntmps256;go_wp2_with fail;go_ret;exact⟨by rw[←HE.out];rfl,rfl⟩
theorem zp5(w:World)(l:List Nat)(hl:∀b∈l,b<256)(hmx:l.length≤1048576):Calls prog 266 #[.string (zag l)] w fun e w'=>e= .returned (.string (zag (l.map lowB)))∧Fr [] w w':=by
 have HS:=hid (za4 l);have HAt:=hid (zc4 l hl)
 have HL:=hid (fun(k c:Nat) (h1:l[k]?=some c)=>(show(l.take k).map lowB++ [lowB c] =(l.take (k+1)).map lowB from by
  rw[List.take_add_one,h1,Option.toList_some,List.map_append];rfl))
 have HLo:=hid (fun W c (hc:c<256)=>z05 W c hc);have HLen:=hid (fun k=>(show((l.take k).map lowB).length≤k from by rw[List.length_map,List.length_take];omega))
 have HLt:=hid (fun k=>(show∀b∈(l.take k).map lowB,b<256 from fun b hb=>by
  obtain⟨y,hy,rfl⟩:=List.mem_map.1 hb;exact zfe (hl y (List.mem_of_mem_take hy))))
 have HAll:=hid (show(l.take l.length).map lowB=l.map lowB from by rw[List.take_length]);obtain⟨s,hs⟩:∃s,zag l=s:=⟨_,rfl⟩;rw[hs]at HS HAt⊢;clear hs;generalize hn:l.length=n at*;have HN:=hid hn;have hsz:s.size=n:=HS.out;clear hn;have HO0:=hid (OwnB.nil w w.heap.size);go_enter func266,ntmps266;go_wp2_with fail;go_loopw [3,4] (fun u v W=>∃(k:Nat) (z:Value),z=u∧k≤n∧v= .int .i64 k∧Hid (OwnB W w.heap.size z ((l.take k).map lowB))∧Hid (Fr [] w W)) (fun _ v _=>n-(intOf v).toNat);case atStart=>exact⟨0,_,rfl,Nat.zero_le _,rfl,HO0,hid (Fr.refl _ _)⟩
 case round=>
  obtain⟨k,z,rfl,hk,rfl,HO,HF⟩:=hrel;by_cases hlt:k<n
  ·obtain⟨c,hc⟩:∃c,l[k]?=some c:=⟨_,List.getElem?_eq_getElem (by rw[HN.out];exact hlt)⟩
   have hc256:c<256:=hl c (List.mem_of_getElem? hc);have b0':decide (k<s.size)=true:=decide_eq_true (by omega);have wk:=i64_in ((k:Int)+1) (by omega);have hks:k<s.size:=by omega
   have hat:=HAt.out k hks;rw[hc]at hat;simp only[Option.getD_some]at hat;have HC:=hid (HL.out k c hc);have hlc:=zfe hc256;have HLc:=hid (HLo.out wr c hc256);have hlen:=HLen.out k;clear hc
   have hb1:∀W:World,Byt (W.alloc (.cells #[.int .u8 (lowB c)] 5)) (some ⟨W.heap.size,0,none⟩) [lowB c] :=fun W=>⟨fun i hi=>by
    obtain rfl:i=0:=by simpa using hi
    exact⟨W.heap.size,0,rfl,(Blk.new W 5 #[.int .u8 (lowB c)]).cell 0,(Blk.new W 5 #[.int .u8 (lowB c)]).lt⟩,fun b hb=>by simp at hb;omega,by simp⟩
   generalize lowB c=d at*;generalize(l.take k).map lowB=m at*;have HB1:=hid hb1;clear hb1;have hsw:=HF.out.size;go_wp2_with fail;with_reducible refine HLc.out.mono ?_
   rintro e w2 ⟨rfl,he⟩;rw[he];clear he HLc;go_wp2_with (at_builtin;refine zf4 rfl _ _ rfl rfl w.heap.size _ m rfl (HO.out.alloc _) _ _ 1 [d] rfl rfl (HB1.out _) (by simp;omega) (by simp;omega) ?_;intro v1 W1 hO1 hgr1 hob1);have HO1:=hid (HC.out▸hO1);have HF1:=hid ((HO.out.alloc _).fr hgr1 (HF.out.alloc _) (Nat.le_refl _));clear hO1 hgr1 hob1 HO HF;go_wp2_with fail;go_roundw;case rel=>exact⟨k+1,v1,rfl,by omega,by go_num,HO1,HF1⟩
   case measure=>simp[intOf];omega
  ·obtain rfl:k=n:=by omega
   have b0':decide (k<s.size)=false:=decide_eq_false (by omega);obtain⟨a,c,hz,hby,_⟩:=HO.out.byt (HLt.out k) (by have:=HLen.out k;omega);subst hz;have hcv:=zc6 wr a c _ hby;rw[HAll.out]at hcv⊢;generalize(l.map lowB).length=ln at*;clear HL HLo HLen HLt HAll hby HO;go_wp2_with fail;go_ret;exact⟨rfl,HF.out⟩
end Go.Proofs.YtolhkhdbgnciiaaGreatDoor
