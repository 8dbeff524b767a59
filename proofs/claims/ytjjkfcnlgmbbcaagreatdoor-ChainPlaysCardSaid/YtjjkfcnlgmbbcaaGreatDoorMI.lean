/- Several texts in one. -/
import Derived.Test.YtjjkfcnlgmbbcaaGreatDoorMG
import Derived.Test.YtjjkfcnlgmbbcaaGreatDoorMO
import Derived.Test.YtjjkfcnlgmbbcaaGreatDoorMA
import Derived.ScopeJumps
import Derived.WalkMore
import Derived.Test.YtjjkfcnlgmbbcaaGreatDoorMB
import Derived.Test.YtjjkfcnlgmbbcaaGreatDoorGA
import Derived.Test.YtjjkfcnlgmbbcaaGreatDoorGD
namespace Go.Proofs.YtjjkfcnlgmbbcaaGreatDoor
set_option linter.unusedVariables false
set_option linter.unusedSimpArgs false
open Go.RowKit
set_option maxRecDepth 1000000
set_option maxHeartbeats 8000000
def sfx{α:Type}(N:List α)(k:Nat):List α:=N.drop (N.length-k)
theorem sfx_zero{α:Type}(N:List α):sfx N 0= [] :=by simp[sfx]
theorem sfx_all{α:Type}(N:List α):sfx N N.length=N:=by simp[sfx]
theorem sfx_len{α:Type}{N:List α}{k:Nat}(h:k≤N.length):(sfx N k).length=k:=by simp[sfx];omega
theorem sfx_succ{α:Type}{N:List α}{k:Nat}(h:k<N.length):sfx N (k+1)=N[N.length-1-k]'(by omega)::sfx N k:=by
 unfold sfx;rw[List.drop_eq_getElem_cons (by omega:N.length-(k+1)<N.length)];congr 1
 ·congr 1;omega
 ·congr 1;omega
theorem sfx_pre{α:Type}{N:List α}{j k:Nat}(h:j≤k)(hk:k≤N.length):∃s,sfx N k=s++sfx N j:=by
 refine⟨(sfx N k).take (k-j),?_⟩
 have e:sfx N j=(sfx N k).drop (k-j):=by
  unfold sfx;rw[List.drop_drop];congr 1;omega
 rw[e,List.take_append_drop]
structure Kn(l:List Nat)(nm:Nat→List (List Nat))(N:List (List Nat))(at_ k:Nat):Prop where
 le:k≤N.length
 pl:at_=0∨at_∈l
 ew:nm at_=sfx N k
 no:k<N.length→ ∀x∈l,nm x≠sfx N (k+1)
section
variable {w0 W W' : World} {q : MH} {u0 : TM} {l : List Nat} {par refs own : Nat → Nat} {B : Nat → List Nat} {nm : Nat → List (List Nat)} {fr x p a k : Nat} {b : List Nat} {N : List (List Nat)}
end
def wireN(L:List (List Nat)):Nat:=L.foldl (fun n s=>n+(s.length+1)) 1
def chkN(L:List (List Nat)):Nat:=if L.all labOk=true then(if 255<wireN L then 21 else 0)else 20
def lowN(L:List (List Nat)):List (List Nat):=L.map (fun s=>s.map lowB)
theorem lowN_len(L:List (List Nat)):(lowN L).length=L.length:=by simp[lowN]
theorem fold_mono:∀(L:List (List Nat)) (n:Nat),n≤L.foldl (fun n s=>n+(s.length+1)) n
 | [],n=>Nat.le_refl _
 |s::L,n=>by
  have:=fold_mono L (n+(s.length+1));rw[List.foldl_cons];omega
theorem fold_take(L:List (List Nat))(k:Nat)(s:List Nat)(n:Nat)(h:L[k]?=some s):(L.take (k+1)).foldl (fun n s=>n+(s.length+1)) n=(L.take k).foldl (fun n s=>n+(s.length+1)) n+(s.length+1):=by
 rw[List.take_add_one,h,Option.toList_some,List.foldl_append];rfl
section
variable {w0 w W W' : World} {q : MH} {u0 : TM} {l : List Nat} {par refs own : Nat → Nat} {B : Nat → List Nat} {nm : Nat → List (List Nat)} {fr x p a c : Nat} {b : List Nat}
theorem nfirst(w:World)(ad:Option Addr)(cap:Nat)(L:List (List Nat))(h:StrA w ad L):Calls Tryz.prog 233 #[.slice ad L.length cap,.func (.func 119) #[] #[]] w fun e w'=>e= .returned (.int .i64 (if L.all labOk=true then 0 else 20))∧Fr [] w w':=by
 have HA:=Lib.hid h;have hle:=h.len;obtain⟨n,hn⟩:∃n,L.length=n:=⟨_,rfl⟩;rw[hn];rw[hn]at hle;have HN:=Lib.hid hn;obtain⟨R,hR⟩:∃R:Int,(if L.all labOk=true then(0:Int)else 20)=R:=⟨_,rfl⟩;rw[hR]
 have H20:=Lib.hid (fun(s:List Nat) (hs:s∈L) (hk:¬labOk s=true)=>(show(20:Int)=R from by
  rw[←hR,if_neg];intro ha;exact hk (List.all_eq_true.1 ha s hs)))
 have H0:=Lib.hid (fun(hall:∀s∈L.take n,labOk s=true)=>(show(0:Int)=R from by
  rw[←hR,if_pos];rw[←hn,List.take_length]at hall;exact List.all_eq_true.2 hall))
 clear hn h hR;go_enter Tryz.func233,Tryz.ntmps233;go_wp2_with fail;go_loopg [10] (n+1) (fun gk v10 W=>∃i:Nat,v10= .int .i64 i∧(i+gk=n+1∧i≤n)∧Hid (∀s∈L.take i,labOk s=true)∧Hid (Fr [] w W));case atStart=>exact⟨0,rfl,by omega,Lib.hid (fun s hs=>by simp at hs),Lib.hid (Fr.refl [] w)⟩
 case round=>
  obtain⟨i,rfl,hi,HI,F3⟩:=hrel;by_cases hlt:i<n
  ·have hL:i<L.length:=by rw[HN.out];exact hlt
   obtain⟨g,o,rfl,hc,hg⟩:=HA.out.at_ i hL;have hc1:=(F3.out.cell (p:=⟨g,o+i,none⟩) hg (by simp)).trans hc;have hs:=HA.out.lt _ (List.getElem_mem hL);have hgd:L[i]?=some L[i] :=List.getElem?_eq_getElem hL;rw[hgd]at hc1;simp only[Option.getD_some]at hc1;have HM:=Lib.hid (List.getElem_mem hL);have HG:=Lib.hid hgd;generalize L[i]'hL=s at*;have HLb:=Lib.hid (fun V=>flabel V s hs);have H20':=Lib.hid (fun hk=>H20.out s HM.out hk)
   have HI':=Lib.hid (fun hk:labOk s=true=>(show∀t∈L.take (i+1),labOk t=true from fun t ht=>by
    rw[List.take_add_one,HG.out,Option.toList_some]at ht;rcases List.mem_append.1 ht with h|h
    ·exact HI.out t h
    ·rw[List.mem_singleton]at h;rw[h];exact hk))
   have b6:decide ((i:Int)<n)=true:=by simp;omega
   have b6':decide (i<n)=true:=by simp;omega
   have i0:(0:Int)≤i:=by omega
   have i1:(i:Int)<n:=by omega
   have wi:IntKind.i64.wrap ((i:Int)+1)=(i:Int)+1:=IntWalk.i64_in _ (by omega);generalize strOf s=S at*;clear hc hs hL hgd;by_cases hk:labOk s=true
   ·have HIk:=Lib.hid (HI'.out hk)
    rw[if_pos hk]at HLb;clear hk;go_wp2_with fail;with_reducible refine(HLb.out _).mono ?_
    rintro e w5 ⟨rfl,f5⟩;have F5:=Lib.hid (F3.out.trans f5);clear f5;go_wp2_with fail;go_roundg (gk-1);case measure=>omega
    case rel=>exact⟨i+1,by go_num,by omega,HIk,F5⟩
   ·have HR:=Lib.hid (H20'.out hk)
    rw[if_neg hk]at HLb;clear hk;go_wp2_with fail;with_reducible refine(HLb.out _).mono ?_
    rintro e w5 ⟨rfl,f5⟩;have F5:=Lib.hid (F3.out.trans f5);clear f5;go_wp2_with fail;go_ret;exact⟨by rw[←HR.out];rfl,F5.out⟩
  ·obtain rfl:i=n:=by omega
   have b6:decide ((i:Int)<i)=false:=by simp
   have b6':decide (i<i)=false:=by simp
   have HR:=Lib.hid (H0.out HI.out);go_wp2_with fail;go_ret;exact⟨by rw[←HR.out];rfl,F3.out⟩
theorem nwire(w:World)(ad:Option Addr)(cap:Nat)(L:List (List Nat))(h:StrA w ad L)(hb:wireN L≤1099511627776):Calls Tryz.prog 234 #[.slice ad L.length cap] w fun e w'=>e= .returned (.int .i64 (wireN L))∧w'=w:=by
 have HA:=Lib.hid h;have hle:=h.len;obtain⟨n,hn⟩:∃n,L.length=n:=⟨_,rfl⟩;have HX:=Lib.hid (fun k s (hs:L[k]?=some s)=>fold_take L k s 1 hs)
 have HB:=Lib.hid (fun k=>(show(L.take k).foldl (fun n s=>n+(s.length+1)) 1≤1099511627776 from by
  refine Nat.le_trans ?_ hb;unfold wireN;conv=>rhs;rw[←List.take_append_drop k L,List.foldl_append]
  exact fold_mono _ _))
 have HZ:=Lib.hid (show(L.take 0).foldl (fun n s=>n+(s.length+1)) 1=1 from rfl);have HF:=Lib.hid (show(L.take n).foldl (fun n s=>n+(s.length+1)) 1=wireN L from by rw[←hn,List.take_length];rfl);rw[←HF.out];obtain⟨M,hM⟩:∃M:Nat→Nat,(fun k=>(L.take k).foldl (fun n s=>n+(s.length+1)) 1)=M:=⟨_,rfl⟩;have hM':∀k,(L.take k).foldl (fun n s=>n+(s.length+1)) 1=M k:=fun k=>by rw[←hM]
 simp only[hM']at HX HB HZ⊢;rw[hn];rw[hn]at hle;have HN:=Lib.hid hn;clear hn h hM hM' HF hb;go_enter Tryz.func234,Tryz.ntmps234;go_wp2_with fail;go_loopg [3,8] (n+1) (fun gk v3 v8 W=>∃i:Nat,v3= .int .i64 (M i)∧v8= .int .i64 i∧(i+gk=n+1∧i≤n)∧w=W);case atStart=>exact⟨0,by rw[HZ.out];rfl,rfl,by omega,rfl⟩
 case round=>
  obtain⟨i,rfl,rfl,hi,rfl⟩:=hrel;by_cases hlt:i<n
  ·have hL:i<L.length:=by rw[HN.out];exact hlt
   obtain⟨g,o,rfl,hc,hg⟩:=HA.out.at_ i hL;have hgd:L[i]?=some L[i] :=List.getElem?_eq_getElem hL;rw[hgd]at hc;simp only[Option.getD_some]at hc;have hx:=HX.out i _ hgd;generalize L[i]'hL=s at*;have hb1:=HB.out (i+1);have hsz:=strOf_sz s;obtain⟨k,hk⟩:∃k,s.length=k:=⟨_,rfl⟩;rw[hk]at hx hsz;have b6:decide ((i:Int)<n)=true:=by simp;omega
   have b6':decide (i<n)=true:=by simp;omega
   have i0:(0:Int)≤i:=by omega
   have i1:(i:Int)<n:=by omega
   have wi:IntKind.i64.wrap ((i:Int)+1)=(i:Int)+1:=IntWalk.i64_in _ (by omega);have wk:IntKind.i64.wrap ((k:Int)+1)=(k:Int)+1:=IntWalk.i64_in _ (by omega);have HS:=Lib.hid hx;have wm:IntKind.i64.wrap ((M i:Int)+((k:Int)+1))=(M i:Int)+((k:Int)+1):=IntWalk.i64_in _ (by omega);generalize strOf s=S at*;clear hk hgd hL hx;go_wp2_with fail;go_roundg (gk-1);case measure=>omega
   case rel=>exact⟨i+1,by rw[HS.out];push_cast;rfl,by go_num,by omega,rfl⟩
  ·obtain rfl:i=n:=by omega
   have b6:decide ((i:Int)<i)=false:=by simp
   have b6':decide (i<i)=false:=by simp
   go_wp2_with fail;go_ret;exact⟨rfl,rfl⟩
theorem ncheck(w:World)(ad:Option Addr)(cap:Nat)(L:List (List Nat))(h:StrA w ad L)(hb:wireN L≤1099511627776):Calls Tryz.prog 131 #[.slice ad L.length cap] w fun e w'=>e= .returned (.int .i64 (chkN L))∧Fr [] w w':=by
 have h1:=nfirst w ad cap L h;have H2:=Lib.hid (fun V (hV:Fr [] w V)=>nwire V ad cap L (h.fr hV) hb);by_cases hk:L.all labOk=true
 ·rw[if_pos hk]at h1
  have HC:=Lib.hid (show(if 255<wireN L then 21 else 0)=chkN L from by unfold chkN;rw[if_pos hk]);generalize L.length=n at*;generalize wireN L=wl at*;clear h hk;go_enter Tryz.func131,Tryz.ntmps131;go_wp2_with fail;with_reducible refine h1.mono ?_
  rintro e w1 ⟨rfl,f1⟩;have h2:=H2.out _ f1;have F1:=Lib.hid f1;clear f1 h1;go_wp2_with fail;with_reducible refine h2.mono ?_
  rintro e w2 ⟨rfl,he⟩;rw[he];clear he h2;by_cases h5:255<wl
  ·have b1:decide ((255:Int)<wl)=true:=by simp;omega
   have b1':decide (255<wl)=true:=by simp;omega
   go_wp2_with fail;go_ret;exact⟨by rw[←HC.out,if_pos h5];rfl,F1.out⟩
  ·have b1:decide ((255:Int)<wl)=false:=by simp;omega
   have b1':decide (255<wl)=false:=by simp;omega
   go_wp2_with fail;go_ret;exact⟨by rw[←HC.out,if_neg h5];rfl,F1.out⟩
 ·rw[if_neg hk]at h1
  have HC:=Lib.hid (show 20=chkN L from by unfold chkN;rw[if_neg hk]);generalize L.length=n at*;clear h hk;go_enter Tryz.func131,Tryz.ntmps131;go_wp2_with fail;with_reducible refine h1.mono ?_
  rintro e w1 ⟨rfl,f1⟩;go_wp2_with fail;go_ret;exact⟨by rw[←HC.out];rfl,f1⟩
end
theorem StrA.frS{w w':World}{a:Option Addr}{l:List (List Nat)}{S:List Nat}(h:StrA w a l)(hf:Fr S w w')(hS:∀g o,a=some ⟨g,o,none⟩→g∉S):StrA w' a l:=
 ⟨fun i hi=>by
  obtain⟨g,o,ha,hc,hg⟩:=h.at_ i hi;exact⟨g,o,ha,(hf.cell (p:=⟨g,o+i,none⟩) hg (hS g o ha)).trans hc,Nat.lt_of_lt_of_le hg hf.size⟩,h.lt,h.each,h.len⟩
section
variable {w0 w W W' : World} {q : MH} {u0 : TM} {l : List Nat} {par refs own : Nat → Nat} {B : Nat → List Nat} {nm : Nat → List (List Nat)} {fr x p a c : Nat} {b : List Nat}
theorem cknown(h:CP w0 q u0 l par own nm fr w)(ad:Option Addr)(cap:Nat)(L:List (List Nat))(hA:StrA w ad L)(hAq:0<L.length→∀g o,ad=some ⟨g,o,none⟩→g∉q.blocks):Calls Tryz.prog 15 #[.pointer (some ⟨q.m,0,none⟩),.slice ad L.length cap] w fun e w'=>∃at_ k:Nat,e= .returned (.tuple #[.int .i64 at_,.int .i64 k])∧Kn l nm (lowN L) at_ k∧CP w0 q u0 l par own nm fr w'∧Fr q.blocks w w':=by
 have HFi:=Lib.hid (fun W (hW:CP w0 q u0 l par own nm fr W) (a:Nat) (ha:a=0∨a∈l) (b:List Nat) (hb:∀k∈b,k<256)=>c_find hW ha hb);have HQ:=Lib.hid (fun g (hg:g<w.heap.size) (hn:g∉q.blocks) W (hW:Fr q.blocks w W) o v (hc:w.cell? ⟨g,o,none⟩=some v)=>(show W.cell? ⟨g,o,none⟩=some v from(hW.cell (p:=⟨g,o,none⟩) hg hn).trans hc));have HA:=Lib.hid hA;have H0:=Lib.hid h;have HZ:=Lib.hid h.z;have hle:=hA.len;obtain⟨n,hn⟩:∃n,L.length=n:=⟨_,rfl⟩;have HN:=Lib.hid hn;rw[hn]at hle⊢;have HAq:=Lib.hid hAq;clear h hA hAq hn;go_enter Tryz.func15,Tryz.ntmps15;go_wp2_with fail;refine wp_scope_jumps 0 (fun a' w'=>∃(at_ k:Nat) (u2 u3 u8 u9 u10 u11 u12 u13 u14 u15 u16 u17 u18 u19 u20 u21 u22 u23 u24 u25 u26 u27 u28 u29 u30 u31 u32 u33 u34 u35 u36:Value),a'={tmps:= #[.pointer (some ⟨q.m,0,none⟩),.slice ad n cap,u2,u3,.int .i64 0,.int .i64 0,.int .i64 at_,.int .i64 k,u8,u9,u10,u11,u12,u13,u14,u15,u16,u17,u18,u19,u20,u21,u22,u23,u24,u25,u26,u27,u28,u29,u30,u31,u32,u33,u34,u35,u36],defers:= []}∧k≤n∧Hid (at_=0∨at_∈l)∧Hid (nm at_=sfx (lowN L) k)∧Hid (CP w0 q u0 l par own nm fr w')∧Hid (Fr q.blocks w w')) (fun a' _=>n-(intOf (a'.tmps.getD 7 undef)).toNat) rfl ?_ ?_
 ·have HE:=Lib.hid (show nm 0=sfx (lowN L) 0 from by rw[HZ.out,sfx_zero])
  have HC:=H0;have HF:=Lib.hid (Fr.refl q.blocks w);go_wp2_with fail;go_step3;by_cases hlt:0<n
  ·have hL:n-1-0<L.length:=by rw[HN.out];omega
   obtain⟨g,o,rfl,hc,hg⟩:=HA.out.at_ (n-1-0) hL;have hgd:L[n-1-0]?=some (L[n-1-0]'hL):=List.getElem?_eq_getElem hL;rw[hgd]at hc;simp only[Option.getD_some]at hc;have hs:=HA.out.lt _ (List.getElem_mem hL)
   have HSX:=Lib.hid (show sfx (lowN L) (0+1)=(L[n-1-0]'hL).map lowB::sfx (lowN L) 0 from by
    rw[sfx_succ (by rw[lowN_len,HN.out];exact hlt)];congr 1;simp only[lowN,List.getElem_map,List.length_map,HN.out])
   have hcW:=HQ.out g hg (HAq.out (by omega) g o rfl) w HF.out _ _ hc;generalize L[n-1-0]'hL=s at*;have HFi':=Lib.hid (show Calls Tryz.prog 50 #[.pointer (some ⟨q.m,0,none⟩),.int .i64 0,.string (strOf s)] w _ from HFi.out _ HC.out 0 (.inl rfl) s hs);have HLE:=Lib.hid (show 0+1≤(lowN L).length from by rw[lowN_len,HN.out];exact hlt);have w1:IntKind.i64.wrap ((n:Int)-1)=((n:Int)-1):=IntWalk.i64_in _ (by omega);have w2:IntKind.i64.wrap ((n:Int)-1-(0:Int))=((n-1-0:Nat):Int):=by rw[IntWalk.i64_in _ (by omega)];(try omega)
   have w3:IntKind.i64.wrap ((0:Int)+1)=((0+1:Nat):Int):=by rw[IntWalk.i64_in _ (by omega)];rfl
   have b1:((0:Int)==(n:Int))=false:=by rw[beq_eq_false_iff_ne];omega
   have b1':(0==n)=false:=by rw[beq_eq_false_iff_ne];omega
   have i0:(0:Int)≤(n:Int)-1:=by omega
   have i1:(n:Int)-1<n:=by omega
   rw[Nat.sub_zero]at hcW;generalize strOf s=S at*;clear hc hgd hs hL;go_wp2_with fail;with_reducible refine HFi'.out.mono ?_
   rintro e w5 ⟨h5,f5,⟨x,rfl,hx,-,hnx⟩|⟨rfl,hno⟩⟩
   ·have H5:=Lib.hid h5
    have F5:=Lib.hid (HF.out.trans f5);have HX:=Lib.hid (show x=0∨x∈l from .inr hx);have HNX:=Lib.hid (show nm x=sfx (lowN L) (0+1)from by rw[HSX.out,←HE.out];exact hnx);clear h5 f5 hx hnx;go_wp2_with fail;go_step3;exact⟨rfl,x,0+1,_,_,_,_,_,_,_,_,_,_,_,_,_,_,_,_,_,_,_,_,_,_,_,_,_,_,_,_,_,_,_,by first|rfl|(congr 1;go_num),by omega,HX,HNX,H5,F5⟩
   ·have HK:=Lib.hid (show Kn l nm (lowN L) 0 0 from⟨Nat.le_trans (Nat.le_succ _) HLE.out,(Or.inl rfl),HE.out,fun _ x hx e=>hno x hx (by rw[e,HSX.out,HE.out])⟩)
    have H5:=Lib.hid h5;have F5:=Lib.hid (HF.out.trans f5);clear h5 f5 hno;go_wp2_with fail;try simp only[Exit.jump]
    go_ret2;exact⟨0,0,rfl,HK.out,H5.out,F5.out⟩
  ·obtain rfl:0=n:=by omega
   have b1:((0:Int)==(0:Int))=true:=by simp
   have HK:=Lib.hid (show Kn l nm (lowN L) 0 0 from⟨by rw[lowN_len,HN.out];exact Nat.le_refl _,(Or.inl rfl),HE.out,fun hlt=>by rw[lowN_len,HN.out]at hlt;omega⟩);go_wp2_with fail;try simp only[Exit.jump]
   go_ret2;exact⟨0,0,rfl,HK.out,HC.out,HF.out⟩
 ·rintro a' w' ⟨at_,k,u2,u3,u8,u9,u10,u11,u12,u13,u14,u15,u16,u17,u18,u19,u20,u21,u22,u23,u24,u25,u26,u27,u28,u29,u30,u31,u32,u33,u34,u35,u36,rfl,hk,HP,HE,HC,HF⟩
  by_cases hlt:k<n
  ·have hL:n-1-k<L.length:=by rw[HN.out];omega
   obtain⟨g,o,rfl,hc,hg⟩:=HA.out.at_ (n-1-k) hL;have hgd:L[n-1-k]?=some (L[n-1-k]'hL):=List.getElem?_eq_getElem hL;rw[hgd]at hc;simp only[Option.getD_some]at hc;have hs:=HA.out.lt _ (List.getElem_mem hL)
   have HSX:=Lib.hid (show sfx (lowN L) (k+1)=(L[n-1-k]'hL).map lowB::sfx (lowN L) k from by
    rw[sfx_succ (by rw[lowN_len,HN.out];exact hlt)];congr 1;simp only[lowN,List.getElem_map,List.length_map,HN.out])
   have hcW:=HQ.out g hg (HAq.out (by omega) g o rfl) w' HF.out _ _ hc;generalize L[n-1-k]'hL=s at*;have HFi':=Lib.hid (HFi.out _ HC.out at_ HP.out s hs);have HLE:=Lib.hid (show k+1≤(lowN L).length from by rw[lowN_len,HN.out];exact hlt);have w1:IntKind.i64.wrap ((n:Int)-1)=((n:Int)-1):=IntWalk.i64_in _ (by omega);have w2:IntKind.i64.wrap ((n:Int)-1-(k:Int))=((n-1-k:Nat):Int):=by rw[IntWalk.i64_in _ (by omega)];(try omega)
   have w3:IntKind.i64.wrap ((k:Int)+1)=((k+1:Nat):Int):=by rw[IntWalk.i64_in _ (by omega)];push_cast;rfl
   have b1:((k:Int)==(n:Int))=false:=by rw[beq_eq_false_iff_ne];omega
   have b1':(k==n)=false:=by rw[beq_eq_false_iff_ne];omega
   have i0:(0:Int)≤((n-1-k:Nat):Int):=by omega
   have i1:((n-1-k:Nat):Int)<n:=by omega
   generalize strOf s=S at*;generalize n-1-k=ix at*;clear hc hgd hs hL;go_wp2_with fail;with_reducible refine HFi'.out.mono ?_
   rintro e w5 ⟨h5,f5,⟨x,rfl,hx,-,hnx⟩|⟨rfl,hno⟩⟩
   ·have H5:=Lib.hid h5
    have F5:=Lib.hid (HF.out.trans f5);have HX:=Lib.hid (show x=0∨x∈l from .inr hx);have HNX:=Lib.hid (show nm x=sfx (lowN L) (k+1)from by rw[HSX.out,←HE.out];exact hnx);clear h5 f5 hx hnx;go_wp2_with fail;go_step3;exact⟨rfl,⟨x,k+1,_,_,_,_,_,_,_,_,_,_,_,_,_,_,_,_,_,_,_,_,_,_,_,_,_,_,_,_,_,_,_,by first|rfl|(congr 1;go_num),by omega,HX,HNX,H5,F5⟩,by simp[intOf];omega⟩
   ·have HK:=Lib.hid (show Kn l nm (lowN L) at_ k from⟨Nat.le_trans (Nat.le_succ _) HLE.out,HP.out,HE.out,fun _ x hx e=>hno x hx (by rw[e,HSX.out,HE.out])⟩)
    have H5:=Lib.hid h5;have F5:=Lib.hid (HF.out.trans f5);clear h5 f5 hno;go_wp2_with fail;try simp only[Exit.jump]
    go_ret2;exact⟨at_,k,rfl,HK.out,H5.out,F5.out⟩
  ·obtain rfl:k=n:=by omega
   have b1:((k:Int)==(k:Int))=true:=by simp
   have HK:=Lib.hid (show Kn l nm (lowN L) at_ k from⟨by rw[lowN_len,HN.out];exact Nat.le_refl _,HP.out,HE.out,fun hlt=>by rw[lowN_len,HN.out]at hlt;omega⟩);go_wp2_with fail;try simp only[Exit.jump]
   go_ret2;exact⟨at_,k,rfl,HK.out,HC.out,HF.out⟩
end
section
variable {w0 w W W' : World} {q : MH} {u0 : TM} {l : List Nat} {par refs own : Nat → Nat} {B : Nat → List Nat} {nm : Nat → List (List Nat)} {fr x p a c : Nat} {b : List Nat}
theorem cfindN(h:CP w0 q u0 l par own nm fr w)(ad:Option Addr)(cap:Nat)(L:List (List Nat))(hA:StrA w ad L)(hAq:0<L.length→∀g o,ad=some ⟨g,o,none⟩→g∉q.blocks):Calls Tryz.prog 13 #[.pointer (some ⟨q.m,0,none⟩),.slice ad L.length cap] w fun e w'=>∃at_ k:Nat,e= .returned (if k<L.length then .tuple #[.int .i64 0,.bool false]else .tuple #[.int .i64 at_,.bool true])∧Kn l nm (lowN L) at_ k∧CP w0 q u0 l par own nm fr w'∧Fr q.blocks w w':=by
 have hk:=cknown h ad cap L hA hAq;generalize hn:L.length=n at*;clear h hA hAq;go_enter Tryz.func13,Tryz.ntmps13;go_wp2_with fail;with_reducible refine hk.mono ?_
 rintro e w1 ⟨at_,k,rfl,h1,h2,h3⟩;have HK:=Lib.hid (And.intro h1 (And.intro h2 h3));clear h1 h2 h3 hk hn;by_cases hlt:k<n
 ·have b1:decide ((k:Int)<n)=true:=by simp;omega
  have b1':decide (k<n)=true:=by simp;omega
  go_wp2_with fail;go_ret2;exact⟨at_,k,by rw[if_pos hlt];rfl,HK.out⟩
 ·have b1:decide ((k:Int)<n)=false:=by simp;omega
  have b1':decide (k<n)=false:=by simp;omega
  go_wp2_with fail;go_ret2;exact⟨at_,k,by rw[if_neg hlt];rfl,HK.out⟩
theorem cend_hold(P:World→Prop)(h:∀W',Fr [] W W'→Calls Tryz.prog 130 #[.pointer (some ⟨q.m,0,none⟩),.int .i64 x] W' fun e w'=>e= .returned (.int .i64 0)∧P w'):Calls Tryz.prog 53 #[.agg #[.pointer (some ⟨q.m,0,none⟩),.int .i64 x]] W fun e w'=>e= .returned (.tuple #[])∧P w':=by
 have H:=Lib.hid (h _ ((Fr.refl [] W).alloc (.cells #[.pointer (some ⟨q.m,0,none⟩),.int .i64 x] 92)));clear h;go_enter Tryz.func53,Tryz.ntmps53;go_wp2_with fail;with_reducible refine H.out.mono ?_
 rintro e w1 ⟨rfl,h1⟩;go_wp2_with fail;go_end0;exact⟨rfl,h1⟩
theorem cend_let(P:World→Prop)(h:∀W',Fr [] W W'→Calls Tryz.prog 48 #[.pointer (some ⟨q.m,0,none⟩),.int .i64 x] W' fun e w'=>(∃v,e= .returned v)∧P w'):Calls Tryz.prog 55 #[.agg #[.pointer (some ⟨q.m,0,none⟩),.int .i64 x]] W fun e w'=>e= .returned (.tuple #[])∧P w':=by
 have H:=Lib.hid (h _ ((Fr.refl [] W).alloc (.cells #[.pointer (some ⟨q.m,0,none⟩),.int .i64 x] 92)));clear h;go_enter Tryz.func55,Tryz.ntmps55;go_wp2_with fail;with_reducible refine H.out.mono ?_
 rintro e w1 ⟨⟨v,rfl⟩,h1⟩;go_wp2_with fail;go_end0;exact⟨rfl,h1⟩
theorem cunless0(f:Value):Calls Tryz.prog 54 #[.agg #[.pointer (some ⟨q.m,0,none⟩),.int .i64 0],f] W fun e w'=>e= .returned (.tuple #[])∧Fr [] W w':=by
 have F0:=Lib.hid ((Fr.refl [] W).alloc (.cells #[.pointer (some ⟨q.m,0,none⟩),.int .i64 0] 92));go_enter Tryz.func54,Tryz.ntmps54;go_wp2_with fail;go_end0;exact⟨rfl,F0.out⟩
theorem cunless_hold(hx:x≠0)(P:World→Prop)(h:∀W',Fr [] W W'→Calls Tryz.prog 130 #[.pointer (some ⟨q.m,0,none⟩),.int .i64 x] W' fun e w'=>e= .returned (.int .i64 0)∧P w'):Calls Tryz.prog 54 #[.agg #[.pointer (some ⟨q.m,0,none⟩),.int .i64 x],.func (.func 53) #[] #[]] W fun e w'=>e= .returned (.tuple #[])∧P w':=by
 have F0:=(Fr.refl [] W).alloc (.cells #[.pointer (some ⟨q.m,0,none⟩),.int .i64 x] 92);have H:=Lib.hid (cend_hold (W:=W.alloc (.cells #[.pointer (some ⟨q.m,0,none⟩),.int .i64 x] 92)) P (fun W' hW=>h W' (F0.trans hW)));have bx:((x:Int) !=0)=true:=by simp;omega
 have bx':(x !=0)=true:=by simp;omega
 clear h hx F0;go_enter Tryz.func54,Tryz.ntmps54;go_wp2_with fail;with_reducible refine H.out.mono ?_
 rintro e w1 ⟨rfl,h1⟩;go_wp2_with fail;go_end0;exact⟨rfl,h1⟩
theorem cunless_let(hx:x≠0)(P:World→Prop)(h:∀W',Fr [] W W'→Calls Tryz.prog 48 #[.pointer (some ⟨q.m,0,none⟩),.int .i64 x] W' fun e w'=>(∃v,e= .returned v)∧P w'):Calls Tryz.prog 54 #[.agg #[.pointer (some ⟨q.m,0,none⟩),.int .i64 x],.func (.func 55) #[] #[]] W fun e w'=>e= .returned (.tuple #[])∧P w':=by
 have F0:=(Fr.refl [] W).alloc (.cells #[.pointer (some ⟨q.m,0,none⟩),.int .i64 x] 92);have H:=Lib.hid (cend_let (W:=W.alloc (.cells #[.pointer (some ⟨q.m,0,none⟩),.int .i64 x] 92)) P (fun W' hW=>h W' (F0.trans hW)));have bx:((x:Int) !=0)=true:=by simp;omega
 have bx':(x !=0)=true:=by simp;omega
 clear h hx F0;go_enter Tryz.func54,Tryz.ntmps54;go_wp2_with fail;with_reducible refine H.out.mono ?_
 rintro e w1 ⟨rfl,h1⟩;go_wp2_with fail;go_end0;exact⟨rfl,h1⟩
def ownP(own:Nat→Nat)(a:Nat):Nat→Nat:=if a=0 then own else up own a (own a+1)
def PinP(w0:World)(q:MH)(u0:TM)(l:List Nat)(par own:Nat→Nat)(nm:Nat→List (List Nat))(fr ck:Nat)(N:List (List Nat))(e:Ending)(w':World):Prop:=
 (ck≠0∧e= .returned (.tuple #[.int .i64 0,.int .i64 0,.int .i64 ck])∧CP w0 q u0 l par own nm fr w')∨(ck=0∧ ∃at_ k:Nat,e= .returned (.tuple #[.int .i64 at_,.int .i64 k,.int .i64 0])∧Kn l nm N at_ k∧CP w0 q u0 l par (ownP own at_) nm fr w')
theorem c_pin(h:CP w0 q u0 l par own nm fr w)(ad:Option Addr)(cap:Nat)(L:List (List Nat))(hA:StrA w ad L)(hAq:0<L.length→∀g o,ad=some ⟨g,o,none⟩→g∉q.blocks)(hb:wireN L≤1099511627776)(ho:∀y,own y≤4000000000):Calls Tryz.prog 56 #[.pointer (some ⟨q.m,0,none⟩),.slice ad L.length cap] w fun e w'=>Fr q.blocks w w'∧PinP w0 q u0 l par own nm fr (chkN L) (lowN L) e w':=by
 have HC:=(show∃a s:Nat,(7≤a)∧Hid (Calls Tryz.prog 109 #[.pointer (some ⟨q.m,0,none⟩)] w fun e w'=>e= .returned (cfgV a s)∧Fr [] w w')from by
  obtain⟨refs,B,⟨S,LL,u,E,B0,g,_⟩,_⟩:=h;have ha:=g.wb.h.m.ok.cfg.a1;exact⟨u.a,u.s,ha,Lib.hid (tconfig g.wb.h.m)⟩)
 obtain⟨a0,s0,ha0,HC⟩:=HC;have hE:=eq_cfg0 a0 s0 ha0;have HCk:=Lib.hid (fun W (hW:Fr [] w W)=>ncheck W ad cap L (hA.fr hW) hb);have HKn:=Lib.hid (fun W (hW:Fr [] w W)=>cknown (h.fr0 hW) ad cap L (hA.fr hW) hAq)
 have HU:=Lib.hid (fun(at_:Nat) W (hW:CP w0 q u0 l par own nm fr W) (ha:at_=0∨at_∈l)=>(show Calls Tryz.prog 54 #[.agg #[.pointer (some ⟨q.m,0,none⟩),.int .i64 at_],.func (.func 53) #[] #[]] W fun e w'=>e= .returned (.tuple #[])∧(CP w0 q u0 l par (ownP own at_) nm fr w'∧Fr q.blocks W w')from by
  by_cases h0:at_=0
  ·subst h0
   exact(cunless0 _).mono fun e w' ⟨he,hf⟩=>⟨he,by unfold ownP;rw[if_pos rfl];exact hW.fr0 hf,hf.nil⟩
  ·refine cunless_hold h0 _ (fun W' hf=> ?_)
   refine(c_hold (hW.fr0 hf) (ha.resolve_left h0) (ho _)).mono fun e w' ⟨k1,k2,k3⟩=>⟨k1,?_,hf.nil.trans k3⟩;unfold ownP;rw[if_neg h0];exact k2))
 have H0:=Lib.hid h;unfold cfgV at HC;generalize L.length=n at*;generalize hck:chkN L=ck at*;clear h hA hAq hck ha0;go_enter Tryz.func56,Tryz.ntmps56;go_wp2_with fail;with_reducible refine HC.out.mono ?_
 rintro e w1 ⟨rfl,f1⟩;have F1:=Lib.hid f1;clear f1 HC;go_wp2_with fail;with_reducible refine(HCk.out _ F1.out).mono ?_
 rintro e w2 ⟨rfl,f2⟩;have F2:=Lib.hid (F1.out.trans f2);clear f2 HCk F1;by_cases hc:ck=0
 ·subst hc
  go_wp2_with fail;with_reducible refine(HKn.out _ F2.out).mono ?_
  rintro e w3 ⟨at_,k,rfl,h1,h2,h3⟩;have HK:=Lib.hid h1;have F3:=Lib.hid (F2.out.nil.trans h3);have HU':=Lib.hid (HU.out at_ w3 h2 h1.pl);clear h1 h2 h3 HKn HU;go_wp2_with fail;with_reducible refine HU'.out.mono ?_
  rintro e w4 ⟨rfl,h4,f4⟩;have H4:=Lib.hid h4;have F4:=Lib.hid (F3.out.trans f4);clear h4 f4 HU';go_wp2_with fail;go_returns;exact⟨F4.out,.inr ⟨rfl,at_,k,rfl,HK.out,H4.out⟩⟩
 ·have b1:((ck:Int) !=0)=true:=by simp;omega
  have b1':(ck !=0)=true:=by simp;omega
  have HCK:=Lib.hid hc;clear hc HKn HU;go_wp2_with fail;go_returns;exact⟨F2.out.nil,.inl ⟨HCK.out,rfl,H0.out.fr0 F2.out⟩⟩
theorem c_drop(h:CP w0 q u0 l par own nm fr W)(hx:x∈l)(k:Nat)(ho:own x=k+1):Calls Tryz.prog 11 #[.pointer (some ⟨q.m,0,none⟩),.int .i64 x] W fun e w'=>∃n l1 fr1,e= .returned (.tuple #[.int .i64 (n:Nat),.int .i64 0])∧Fr q.blocks W w'∧CP w0 q u0 l1 par (up own x k) nm fr1 w'∧Rem (up own x k) par l l1∧n+l1.length=l.length:=by
 have HL:=Lib.hid (c_let h hx k ho);have hx0:=(h.rng hx).1;have bx:((x:Int)==0)=false:=by simp;omega
 have bx':(x==0)=false:=by simp;omega
 clear h hx ho hx0;go_enter Tryz.func11,Tryz.ntmps11;go_wp2_with fail;with_reducible refine HL.out.mono ?_
 rintro e w1 ⟨n,l1,fr1,rfl,h1⟩;have H1:=Lib.hid h1;clear h1 HL;go_wp2_with fail;go_ret2;exact⟨n,l1,fr1,rfl,H1.out⟩
theorem c_drop0:Calls Tryz.prog 11 #[.pointer (some ⟨q.m,0,none⟩),.int .i64 0] W fun e w'=>e= .returned (.tuple #[.int .i64 0,.int .i64 0])∧w'=W:=by
 go_enter Tryz.func11,Tryz.ntmps11;go_wp2_with fail;go_ret2;exact⟨rfl,rfl⟩
def ownG(own:Nat→Nat)(x p:Nat):Nat→Nat:=if p=0 then up own x 1 else up (up own x 1) p (own p-1)
theorem c_grow(h:CPT w0 q u0 l par own nm x (clsN (16+b.length)) W)(hp:p=0∨(p∈l∧own p≠0))(hb:∀k∈b,k<256)(hk:labOk b=true)(hno:∀y∈l,nm y≠b.map lowB::nm p)(ho:p≠0→own p≤4000000000)(hf:l.length≤224):Calls Tryz.prog 17 #[.pointer (some ⟨q.m,0,none⟩),.int .i64 p,.int .i64 x,.string (strOf b)] W fun e w'=>e= .returned (.int .i64 0)∧Fr q.blocks W w'∧x∉l∧x≠0∧p≠x∧∃fr,CP w0 q u0 (l++ [x]) (up par x p) (ownG own x p) (up nm x (b.map lowB::nm p)) fr w':=by
 have hp':p=0∨p∈l:=hp.imp id And.left;have HMk:=Lib.hid (c_make h hp' hb hk hno ho hf)
 have HNE:=Lib.hid (show x∉l∧x≠0 from by
  obtain⟨refs,B,h1,_⟩:=h;exact⟨h1.ne.1,h1.ne.2.1⟩)
 have HPX:=Lib.hid (show p≠x from fun e=>by
  rcases hp' with k|k
  ·exact HNE.out.2 (e.symm.trans k)
  ·exact HNE.out.1 (e▸k))
 have HHo:=Lib.hid (fun W (hW:CPM w0 q u0 l (up par x p) own (up nm x (b.map lowB::nm p)) p x W)=>(show Calls Tryz.prog 53 #[.agg #[.pointer (some ⟨q.m,0,none⟩),.int .i64 x]] W fun e w'=>e= .returned (.tuple #[])∧(Fr q.blocks W w'∧∃fr,CP w0 q u0 (l++ [x]) (up par x p) (up own x 1) (up nm x (b.map lowB::nm p)) fr w')from
  cend_hold _ (fun W' hf=>(c_held (hW.fr0 hf)).mono fun e w' ⟨k1,k2,k3⟩=>⟨k1,hf.nil.trans k2,k3⟩)))
 have HLe:=Lib.hid (fun W (fr:Nat) (hW:CP w0 q u0 (l++ [x]) (up par x p) (up own x 1) (up nm x (b.map lowB::nm p)) fr W)=>(show Calls Tryz.prog 54 #[.agg #[.pointer (some ⟨q.m,0,none⟩),.int .i64 p],.func (.func 55) #[] #[]] W fun e w'=>e= .returned (.tuple #[])∧(Fr q.blocks W w'∧∃fr,CP w0 q u0 (l++ [x]) (up par x p) (ownG own x p) (up nm x (b.map lowB::nm p)) fr w')from by
  unfold ownG;by_cases h0:p=0
  ·subst h0
   rw[if_pos rfl];exact(cunless0 _).mono fun e w' ⟨he,hf⟩=>⟨he,hf.nil,fr,hW.fr0 hf⟩
  ·rw[if_neg h0]
   obtain⟨hpl,hop⟩:=hp.resolve_left h0;refine cunless_let h0 _ (fun W' hf=> ?_);refine(c_lets (hW.fr0 hf) (List.mem_append_left _ hpl) (own p-1) (by rw[up_ne _ _ HPX.out];omega) ⟨x,List.mem_append_right _ (List.mem_singleton.2 rfl),up_same _ _ _⟩).mono fun e w' ⟨k1,k2,k3⟩=>⟨⟨_,k1⟩,hf.nil.trans k2,k3⟩))
 generalize strOf b=s at*;clear h hp hp' hb hk hno ho hf;go_enter Tryz.func17,Tryz.ntmps17;go_wp2_with fail;with_reducible refine HMk.out.mono ?_
 rintro e w1 ⟨rfl,f1,h1⟩;have F1:=Lib.hid f1;have H1:=Lib.hid (HHo.out _ h1);clear f1 h1 HMk HHo;go_wp2_with fail;with_reducible refine H1.out.mono ?_
 rintro e w2 ⟨rfl,f2,fr2,h2⟩;have F2:=Lib.hid (F1.out.trans f2);have H2:=Lib.hid (HLe.out _ _ h2);clear f2 h2 F1 H1 HLe;go_wp2_with fail;with_reducible refine H2.out.mono ?_
 rintro e w3 ⟨rfl,f3,h3⟩;have F3:=Lib.hid (F2.out.trans f3);have H3:=Lib.hid h3;clear f3 h3 F2 H2;go_wp2_with fail;go_ret;exact⟨rfl,F3.out,HNE.out.1,HNE.out.2,HPX.out,H3.out⟩
end
section
def KeepL(ks:List Nat)(W W':World):Prop:= ∀k∈ks,W'.heap[k]?=W.heap[k]?
theorem KeepL.refl(ks:List Nat)(W:World):KeepL ks W W:=fun _ _=>rfl
theorem KeepL.trans{ks:List Nat}{A B C:World}(h:KeepL ks A B)(k:KeepL ks B C):KeepL ks A C:=fun x hx=>(k x hx).trans (h x hx)
theorem Fr.keepL{S ks:List Nat}{W W':World}(h:Fr S W W')(h1:∀k∈ks,k<W.heap.size∧k∉S):KeepL ks W W':=fun k hk=>h.block k (h1 k hk).1 (h1 k hk).2
def rngPostK{α:Type}(b:Nat)(ks:List Nat)(I:List α→World→Prop)(Ix:Code→List α→World→Prop)(xs:List α)(W:World):Exit→Act→World→Prop
 | .normal,_,W'=>Keep2 b W W'∧KeepL ks W W'∧I xs W'
 | .ret,_,W'=>Keep2 b W W'∧KeepL ks W W'∧Ix .ret xs W'
 | .exit id,_,W'=>Keep2 b W W'∧KeepL ks W W'∧Ix (.exit id) xs W'
 | .goto t,_,W'=>Keep2 b W W'∧KeepL ks W W'∧Ix (.goto t) xs W'
 | .panic _,_,_=>False
 | .outgrown,_,_=>False
variable {F : Fence} {n : Nat} {P : Program}
def RngItK{α:Type}(F:Fence)(n:Nat)(P:Program)(g:Nat)(lb:Array Value)(encs:α→Array Value)(ks:List Nat)(M M0:World→Prop)(Step:World→World→Prop)(Ok:List α→α→Prop)(S Sp:List α→Prop):Prop:=
 ∀(l:Nat) (J Jx:List α→World→Prop) (W:World),(∀s A,J s A→M A)→(∀s A B,J s A→Step A B→J s B)→(∀s A B,Jx s A→Step A B→Jx s B)→
  (∀pre x A,Ok pre x→J pre A→YieldAt F (n-1) P l (encs x) A fun e B=>KeepL ks A B∧((e= .returned (.bool true)∧J (pre++ [x]) B)∨(e= .returned (.bool false)∧Jx (pre++ [x]) B)))→
  J [] W→M0 W→CallsIn F n P g (#[.func (.yield l) #[] #[]] ++lb) W fun e B=>(∃v,e= .returned v)∧((∃xs,S xs∧J xs B)∨(∃pre,Sp pre∧Jx pre B))
theorem wpIn_rngK{α:Type}{g:Operand}{ps:Array Tmp}{assign body:Code}{Q:Exit→Act→World→Prop}{a:Act}{w:World}
  (hro:F.round=none) (h1:1≤n) {gf:Nat} {lb:Array Value} (hg:a.eval g= .func (.func gf) #[] lb) (hFg:F.fn gf) (eg: ∀args w,(callFunc gf args).run P w= .ok (.enter gf args) w)
  {encs:α→Array Value} {ks:List Nat} {M M0:World→Prop} {Step:World→World→Prop} {Ok:List α→α→Prop} {S Sp:List α→Prop} (hseq:RngItK F (n-1) P gf lb encs ks M M0 Step Ok S Sp) (hps: ∀x,(encs x).size=ps.size)
  (hks: ∀k∈ks,k<w.heap.size) (hM0: ∀W,Fr [w.heap.size,w.heap.size+1] w W→M0 W)
  (hStep: ∀A B,w.heap.size+1<A.heap.size→M A→Step A B→Keep2 w.heap.size A B∧A.heap.size≤B.heap.size)
  (I:List α→World→Prop) (Ix:Code→List α→World→Prop) (hIM: ∀s A,I s A→M A) (hXM: ∀c s A,Ix c s A→M A)
  (hI: ∀s A B,I s A→Fr [w.heap.size,w.heap.size+1] A B→I s B) (hIx: ∀c s A B,Ix c s A→Fr [w.heap.size,w.heap.size+1] A B→Ix c s B)
  (hIs: ∀s A B,I s A→Step A B→I s B) (hXs: ∀c s A B,Ix c s A→Step A B→Ix c s B) (h0:I [] w)
  (Ax:α→Act→World→Prop) (hAx: ∀x a' A B,Ax x a' A→Fr [w.heap.size,w.heap.size+1] A B→Ax x a' B)
  (hassign: ∀(l:Nat) (pre:List α) (x:α) (W:World) (K:Act→World→Prop),w.heap.size+1<W.heap.size→I pre W→(∀a' W',Keep2 w.heap.size W W'→KeepL ks W W'→I pre W'→Ax x a' W'→K a' W')→
   assign.wpIn (F.inRound l) (n-1-1) P (Exit.then K (fun _ _ _=>False)) {tmps:=(ps.zip (encs x)).foldl (fun t (p,v)=>t.setIfInBounds p v) a.tmps,defers:= []} W)
  (hbody: ∀(l:Nat) (pre:List α) (x:α) (a':Act) (W:World),w.heap.size+1<W.heap.size→Ok pre x→I pre W→Ax x a' W→body.wpIn (F.inRound l) (n-1-1) P (rngPostK w.heap.size ks I Ix (pre++ [x]) W) a' W)
  (hdone: ∀(D:Nat) (xs:List α) (W:World),w.heap.size≤D→S xs→I xs W→W.heap[D]?=some (.deferred (some []))→Q .normal {a with defers:={target:= .collected D,args:= #[]}::a.defers} W)
  (hstop: ∀(D:Nat) (c:Code) (pre:List α) (W:World),w.heap.size≤D→Sp pre→Ix c pre W→W.heap[D]?=some (.deferred (some []))→c.wpIn F n P Q {a with defers:={target:= .collected D,args:= #[]}::a.defers} W):
  (Code.rangeFunc g ps assign body).wpIn F n P Q a w:=by
 refine wpIn_rangeFunc fun fn hfn=> ?_
 rw[hro]
 generalize hb:w.heap.size=b at*
 obtain⟨rec,hrec⟩: ∃rec:LoopState→Option Code→Loop,rec=fun st pe=>{state:=st,pending:=pe,fn,tmps:=a.tmps,params:=ps,assign,body,defers:=b}:=⟨_,rfl⟩
 have e0:(Instr.enterLoop fn a.tmps ps assign body none).run P w= .ok (b+1,[{target:= .collected b,args:= #[]}]) ((w.alloc (.deferred (some []))).alloc (.loop (rec .ready none))):=by
  rw[hrec,←hb];exact run_enterLoop_outer _ _ _ _ _
 have hf0:Fr [b,b+1] w ((w.alloc (.deferred (some []))).alloc (.loop (rec .ready none))):=((Fr.refl _ _).alloc _).alloc _
 have hL0:((w.alloc (.deferred (some []))).alloc (.loop (rec .ready none))).heap[b+1]?=some (.loop (rec .ready none)):=by
  have:=World.alloc_heap_new (w.alloc (.deferred (some []))) (.loop (rec .ready none));rwa[World.size_alloc,hb]at this
 have hD0:((w.alloc (.deferred (some []))).alloc (.loop (rec .ready none))).heap[b]?=some (.deferred (some [])):=by
  rw[←hb];exact(Below.heap_alloc _ _ _ (by simp)).trans (World.alloc_heap_new w _)
 generalize(w.alloc (.deferred (some []))).alloc (.loop (rec .ready none))=W1 at*
 have lt_of: ∀{A:World} {o:Obj},A.heap[b+1]?=some o→b+1<A.heap.size:=fun h=>(Array.getElem?_eq_some_iff.1 h).1
 refine⟨b+1,[{target:= .collected b,args:= #[]}],W1,{target:= .fn (.func gf) lb,args:= #[.func (.yield (b+1)) #[] #[]]},W1,gf,#[.func (.yield (b+1)) #[] #[]] ++lb,W1,e0,?_,?_,?_,fun _=>h1,?_⟩
 ·simp only[resolve,hg]
  simp[go_sem]
 ·intro f' hf';simp[Target.leads]at hf';subst hf';exact hFg
 ·simp[invoke,go_sem,eg]
 refine(hseq (b+1)
  (fun s A=>I s A∧A.heap[b+1]?=some (.loop (rec .ready none))∧A.heap[b]?=some (.deferred (some [])))
  (fun s A=> ∃c,Ix c s A∧A.heap[b+1]?=some (.loop (rec .done (some c)))∧A.heap[b]?=some (.deferred (some [])))
  W1 (fun s A h=>hIM s A h.1)
  (fun s A B ⟨hi,hl,hd⟩ hs=>by
   obtain⟨k,_⟩:=hStep A B (lt_of hl) (hIM s A hi) hs
   exact⟨hIs s A B hi hs,k.2.trans hl,k.1.trans hd⟩)
  (fun s A B ⟨c,hi,hl,hd⟩ hs=>by
   obtain⟨k,_⟩:=hStep A B (lt_of hl) (hXM c s A hi) hs
   exact⟨c,hXs c s A B hi hs,k.2.trans hl,k.1.trans hd⟩)
  ?_ ⟨hI _ _ _ h0 hf0,hL0,hD0⟩ (hM0 _ hf0)).mono ?_
 ·rintro pre x A hok ⟨hi,hl,hd⟩
  have hy:=run_yield (P:=P) (args:=encs x) hl (by rw[hrec];exact hps x)
  rw[hrec]at hy
  refine⟨fn,_,assign,body,hy,roundIn_of_wpIn hfn (hassign _ pre x A _ (lt_of hl) hi ?_)⟩
  intro a' A2 k2 kl2 hi2 hax
  have hl2:=k2.2.trans hl
  have hd2:=k2.1.trans hd
  refine⟨_,run_beginRound hl2 (by rw[hrec]),?_⟩
  have fp: ∀(A:World) (o:Obj),Fr [b,b+1] A (A.putObj (b+1) o):=fun A o=>Fr.putObj _ _ (by simp)
  have hl3:(A2.putObj (b+1) (.loop {rec .ready none with state:= .busy})).heap[b+1]?=some (.loop {rec .ready none with state:= .busy}):=World.putObj_heap_same (lt_of hl2)
  have hd3:(A2.putObj (b+1) (.loop {rec .ready none with state:= .busy})).heap[b]?=some (.deferred (some [])):=(World.putObj_heap_other (by omega)).trans hd2
  refine wpIn_mono (hbody _ pre x a' _ (lt_of hl3) hok (hI _ _ _ hi2 (fp _ _)) (hAx _ _ _ _ hax (fp _ _))) ?_
  have kl3:KeepL ks A2 (A2.putObj (b+1) (.loop {rec .ready none with state:= .busy})):=fun k hk=>World.putObj_heap_other (by have:=hks k hk;omega)
  generalize A2.putObj (b+1) (.loop {rec .ready none with state:= .busy})=A3 at*
  have klp: ∀(A:World) (o:Obj),KeepL ks A (A.putObj (b+1) o):=fun A o k hk=>World.putObj_heap_other (by have:=hks k hk;omega)
  have fin: ∀(jump:Option Code) (A4:World),Keep2 b A3 A4→
    (Instr.endRound (b+1) jump).run P A4= .ok (.bool jump.isNone) (A4.putObj (b+1) (.loop (rec (if jump.isNone then .ready else .done) jump)))∧
    (A4.putObj (b+1) (.loop (rec (if jump.isNone then .ready else .done) jump))).heap[b+1]?=some (.loop (rec (if jump.isNone then .ready else .done) jump))∧
    (A4.putObj (b+1) (.loop (rec (if jump.isNone then .ready else .done) jump))).heap[b]?=some (.deferred (some [])):=fun jump A4 k=>by
   have hl4:=k.2.trans hl3
   have hr:=run_endRound (P:=P) jump hl4
   rw[hrec]at hr⊢
   exact⟨hr,World.putObj_heap_same (lt_of hl4),(World.putObj_heap_other (by omega)).trans (k.1.trans hd3)⟩
  rintro e a3 A4 hp
  cases e with
  |normal=>
   obtain⟨k,kl,h⟩:=hp
   obtain⟨r1,r2,r3⟩:=fin none A4 k
   exact⟨_,_,r1,(kl2.trans kl3).trans (kl.trans (klp _ _)),.inl ⟨rfl,hI _ _ _ h (fp _ _),r2,r3⟩⟩
  |ret=>
   obtain⟨k,kl,h⟩:=hp
   obtain⟨r1,r2,r3⟩:=fin (some .ret) A4 k
   exact⟨_,_,r1,(kl2.trans kl3).trans (kl.trans (klp _ _)),.inr ⟨rfl,.ret,hIx _ _ _ _ h (fp _ _),r2,r3⟩⟩
  |exit id=>
   obtain⟨k,kl,h⟩:=hp
   obtain⟨r1,r2,r3⟩:=fin (some (.exit id)) A4 k
   exact⟨_,_,r1,(kl2.trans kl3).trans (kl.trans (klp _ _)),.inr ⟨rfl,.exit id,hIx _ _ _ _ h (fp _ _),r2,r3⟩⟩
  |goto t=>
   obtain⟨k,kl,h⟩:=hp
   obtain⟨r1,r2,r3⟩:=fin (some (.goto t)) A4 k
   exact⟨_,_,r1,(kl2.trans kl3).trans (kl.trans (klp _ _)),.inr ⟨rfl,.goto t,hIx _ _ _ _ h (fp _ _),r2,r3⟩⟩
  |panic ch=>exact hp.elim
  |outgrown=>exact hp.elim
 ·have fp: ∀(A:World) (o:Obj),Fr [b,b+1] A (A.putObj (b+1) o):=fun A o=>Fr.putObj _ _ (by simp)
  rintro e A ⟨⟨v,rfl⟩,⟨xs,hS,hi,hl,hd⟩|⟨pre,hSp,c,hi,hl,hd⟩⟩
  ·have hr:=run_endLoop (P:=P) hl (by rw[hrec];simp)
   rw[hrec]at hr
   exact⟨none,_,hr,hdone b xs _ (Nat.le_refl _) hS (hI _ _ _ hi (fp _ _)) ((World.putObj_heap_other (by omega)).trans hd)⟩
  ·have hr:=run_endLoop (P:=P) hl (by rw[hrec];simp)
   rw[hrec]at hr
   exact⟨some c,_,hr,hstop b c pre _ (Nat.le_refl _) hSp (hIx _ _ _ _ hi (fp _ _)) ((World.putObj_heap_other (by omega)).trans hd)⟩
end
section
open Go.RowKit Go.Shelf
attribute [local go_sem] Oper.semAt_some
section
variable {w0 w W W' : World} {q : MH} {u0 : TM} {l : List Nat} {par refs own : Nat → Nat} {B : Nat → List Nat} {nm : Nat → List (List Nat)} {fr x p a c : Nat} {b : List Nat}
theorem nm_path(h:CP w0 q u0 l par own nm fr W):∀(n:Nat) {y:Nat},(y=0∨y∈l)→(nm y).length=n→∃p:List Nat,p.length=n∧p.Nodup∧∀z∈p,z∈l∧(nm z).length≤n
 |0,y,hy,hn=>⟨[],rfl,List.nodup_nil,fun z hz=>(nomatch hz)⟩
 |n+1,y,hy,hn=>by
  have hyl:y∈l:=hy.resolve_left (fun e=>by rw[e,h.z]at hn;simp at hn);obtain⟨refs,B,h1,h2,h3⟩:=h;have e:=h2.s y hyl;rw[e,List.length_cons]at hn;obtain⟨p,p1,p2,p3⟩:=nm_path ⟨refs,B,h1,h2,h3⟩ n (h1.up hyl) (by omega);refine⟨y::p,by simp[p1],List.nodup_cons.2 ⟨fun hm=> ?_,p2⟩,fun z hz=> ?_⟩
  ·have:=(p3 y hm).2
   rw[e,List.length_cons]at this;omega
  ·rcases List.mem_cons.1 hz with e2|hz
   ·rw[e2];exact⟨hyl,by rw[e,List.length_cons];omega⟩
   ·exact⟨(p3 z hz).1,by have:=(p3 z hz).2;omega⟩
theorem CP.nmlen(h:CP w0 q u0 l par own nm fr W){y:Nat}(hy:y=0∨y∈l):(nm y).length≤224:=by
 obtain⟨p,p1,p2,p3⟩:=nm_path h _ hy rfl;have:=sub_len2 p2 (fun z hz=>(p3 z hz).1);have:=h.few;omega
theorem CP.hd(h:CP w0 q u0 l par own nm fr W)(hx:x∈l):∃s,nm x=s::nm (par x)∧(∀k∈s,k<256)∧Calls Tryz.prog 192 #[.pointer (some ⟨q.m,0,none⟩),.int .i64 x] W fun e w'=>e= .returned (.tuple #[.string (strOf s),.int .i64 0])∧CP w0 q u0 l par own nm fr w'∧Fr q.blocks W w':=by
 obtain⟨refs,B,h1,h2⟩:=h;refine⟨_,h2.1.s x hx,fun k hk=> ?_,(p_label h1 hx).mono fun e w' ⟨he,g1,g2⟩=>⟨he,⟨refs,B,g1,h2⟩,g2⟩⟩;obtain⟨S,L,u,E,B0,g,ha,hrt,r,hf⟩:=h1;rw[←(r x hx).2.2]at hk;exact(g.wb.ct x ((g.mem x).1 hx).1).lt k hk
theorem c_up (h : CP w0 q u0 l par own nm fr W) (hx : x ∈ l) : Calls Tryz.prog 194 #[.agg #[.pointer (some ⟨q.m, 0, none⟩), .int .i64 x]] W fun e w' => e = .returned (.int .i64 (par x)) ∧ CP w0 q u0 l par own nm fr w' ∧ Fr q.blocks W w' := by
  have hpl : par x < 1048576 := by
    rcases h.up hx with e | e
    · omega
    · exact (h.rng e).2
  obtain ⟨refs, B, ⟨S, L, u, E, B0, g, ha, hrt, r, hf⟩, h2⟩ := h
  have f0 := (Fr.refl [] W).alloc (.cells #[.pointer (some ⟨q.m, 0, none⟩), .int .i64 x] 92)
  have hb := g.wb.ix.e x ((g.mem x).1 hx).1
  have ht := ((g.mem x).1 hx).2
  have ht2 : (E x).tag.toNat = 2 := by rw [ht]; rfl
  have hh := hb.h
  have hly := hb.lies
  rw [ht2] at hh hly
  have hl := (show Calls Tryz.prog 211 #[.pointer (some ⟨q.m, 0, none⟩), .int .i64 x, .int .i64 4] (W.alloc (.cells #[.pointer (some ⟨q.m, 0, none⟩), .int .i64 x] 92)) fun e w' => e = .returned (.int .u64 (E x).name) ∧ IsH w' q u ∧ Fr q.blocks (W.alloc (.cells #[.pointer (some ⟨q.m, 0, none⟩), .int .i64 x] 92)) w' from hload (g.wb.h.fr0 f0) hh hly 4)
  rw [(r x hx).1] at hl
  have HL := Lib.hid hl
  have HP := Lib.hid (fun w' (k1 : IsH w' q u) (k2 : Fr q.blocks (W.alloc (.cells #[.pointer (some ⟨q.m, 0, none⟩), .int .i64 x] 92)) w') => (show CP w0 q u0 l par own nm fr w' ∧ Fr q.blocks W w' from
    ⟨⟨refs, B, ⟨S, L, u, E, B0, (g.fr0 f0).same k1 k2, ha, hrt, r, hf⟩, h2⟩, f0.nil.trans k2⟩))
  have wp : IntKind.i64.wrap (par x : Int) = par x := IntWalk.i64_in _ (by omega)
  generalize par x = px at *
  clear hl g ha hrt r hf h2 f0 hb hh hly
  go_enter Tryz.func194, Tryz.ntmps194
  go_wp2_with fail
  with_reducible refine HL.out.mono ?_
  rintro e w1 ⟨rfl, h1, f1⟩
  have H1 := Lib.hid (HP.out _ h1 f1)
  clear h1 f1 HP HL
  go_wp2_with fail
  go_ret
  exact ⟨rfl, H1.out⟩
theorem cis(h:CP w0 q u0 l par own nm fr w)(hx:x=0∨x∈l):Calls Tryz.prog 96 #[.pointer (some ⟨q.m,0,none⟩),.int .i64 x] w fun e w'=>e= .returned (.int .i64 0)∧CP w0 q u0 l par own nm fr w'∧Fr q.blocks w w':=by
 have HC:=(show∃a s:Nat,(7≤a)∧Hid (Calls Tryz.prog 109 #[.pointer (some ⟨q.m,0,none⟩)] w fun e w'=>e= .returned (cfgV a s)∧Fr [] w w')from by
  obtain⟨refs,B,⟨S,LL,u,E,B0,g,_⟩,_⟩:=h;have ha:=g.wb.h.m.ok.cfg.a1;exact⟨u.a,u.s,ha,Lib.hid (tconfig g.wb.h.m)⟩)
 obtain⟨a0,s0,ha0,HC⟩:=HC;have hE:=eq_cfg0 a0 s0 ha0;unfold cfgV at HC;by_cases h0:x=0
 ·subst h0
  have H0:=Lib.hid h;clear h hx ha0;go_enter Tryz.func96,Tryz.ntmps96;go_wp2_with fail;with_reducible refine HC.out.mono ?_
  rintro e w1 ⟨rfl,f1⟩;have F1:=Lib.hid f1;clear f1;go_wp2_with fail;go_ret;exact⟨rfl,H0.out.fr0 F1.out,F1.out.nil⟩
 ·have hxl:=hx.resolve_left h0
  obtain⟨s,-,-,hL⟩:=h.hd hxl;have HL:=Lib.hid hL;have bx:((x:Int)==0)=false:=by simp;omega
  have bx':(x==0)=false:=by simp;omega
  generalize strOf s=S at*;clear h hx h0 hxl hL HC ha0 hE;go_enter Tryz.func96,Tryz.ntmps96;go_wp2_with fail;with_reducible refine HL.out.mono ?_
  rintro e w1 ⟨rfl,h1,f1⟩;have H1:=Lib.hid (And.intro h1 f1);clear h1 f1;go_wp2_with fail;go_ret;exact⟨rfl,H1.out⟩
def ChS(q:MH)(M:World→Prop)(Be:Nat)(A B:World):Prop:=Fr (Be::q.blocks) A B∧M B
theorem ceach1(n:Nat)(hn:1≤n)(Be x0:Nat)(hx0:x0=0∨x0∈l)(hBe:Be∉q.blocks)(hBg:∀A,CP w0 q u0 l par own nm fr A→∀C,Fr [Be] A C→CP w0 q u0 l par own nm fr C):RngItK (α:=Nat×List Nat) Fence.wide n Tryz.prog 193 #[.pointer (some ⟨Be,0,none⟩)] (fun y=> #[.int .i64 y.1,.string (strOf y.2)]) [Be] (fun W=>CP w0 q u0 l par own nm fr W) (fun W=>Blk W Be 92 #[.pointer (some ⟨q.m,0,none⟩),.int .i64 x0])
   (ChS q (CP w0 q u0 l par own nm fr) Be) (fun pre y=>∃rest,pre.map (·.2)++y.2::rest=nm x0) (fun xs=>xs.map (·.2)=nm x0) (fun _=>True):=by
 intro lo J Jx W hJM hJS hXS hY h0 hB0;refine callsIn_of_wp Tryz.func193 rfl trivial ?_ rfl;simp only[Tryz.ntmps193,List.size_toArray,List.length_cons,List.length_nil,Nat.reduceAdd,Nat.reduceSub,Array.replicate_succ,Array.replicate_zero,List.push_toArray,List.append_toArray,List.nil_append,List.cons_append];have HJM:=Lib.hid hJM;have HJS:=Lib.hid hJS;have HY:=Lib.hid hY;have H0:=Lib.hid h0;have HB0:=Lib.hid hB0;have HX0:=Lib.hid hx0;have HBG:=Lib.hid hBg;clear hJM hJS hXS hY h0 hB0 hx0 hBg;gi_wp2_with fail;gi_loopw [3,4] (fun u v wr=>∃(pre:List (Nat×List Nat)) (x:Nat),Hid (x=0∨x∈l)∧Hid (pre.map (·.2)++nm x=nm x0)∧Hid (J pre wr)∧Hid (Blk wr Be 92 #[.pointer (some ⟨q.m,0,none⟩),.int .i64 x])) (fun _ _ wr=>(nm (intOf ((wr.cell? ⟨Be,1,none⟩).getD undef)).toNat).length);case atStart=>exact⟨[],x0,HX0,Lib.hid rfl,H0,HB0⟩
 case round=>
  clear HX0 H0 HB0;obtain⟨pre,x,HX,HE,HJ,HB⟩:=hrel;have hM:=HJM.out _ _ HJ.out;have c0:=HB.out.cell 0;have c1:=HB.out.cell 1;simp at c0 c1;by_cases h0:x=0
  ·subst h0
   have HD:=Lib.hid (show pre.map (·.2)=nm x0 from by have:=HE.out;rwa[hM.z,List.append_nil]at this);clear hM;gi_wp2_with fail;go_end0;exact⟨⟨_,rfl⟩,.inl ⟨pre,HD.out,HJ.out⟩⟩
  ·have hxl:=HX.out.resolve_left h0
   obtain⟨s,hs,hsb,-⟩:=hM.hd hxl
   have HL:=Lib.hid (fun A (hA:CP w0 q u0 l par own nm fr A)=>(show Calls Tryz.prog 192 #[.pointer (some ⟨q.m,0,none⟩),.int .i64 x] A fun e w'=>e= .returned (.tuple #[.string (strOf s),.int .i64 0])∧CP w0 q u0 l par own nm fr w'∧Fr q.blocks A w' from by
    obtain⟨s',hs',-,hL'⟩:=hA.hd hxl;rw[hs]at hs';injection hs' with e1 e2;rw[e1];exact hL'))
   have HU:=Lib.hid (fun A (hA:CP w0 q u0 l par own nm fr A)=>c_up hA hxl);have HUP:=Lib.hid (hM.up hxl);have HS:=Lib.hid hs;have bx:((x:Int) !=0)=true:=by simp;omega
   have bx':(x !=0)=true:=by simp;omega
   have HM:=Lib.hid hM;have HYx:=Lib.hid (fun A (hA:J pre A)=>HY.out pre (x,s) A ⟨nm (par x),by rw[←HE.out,HS.out]⟩ hA);clear hM hxl hs hsb h0;gi_wp2_with (first|(refine⟨trivial,?_⟩;gi_at_call 192;refine(callsIn_wide.2 (HL.out _ HM.out)).mono ?_;rintro e W1 ⟨rfl,h1,f1⟩;have hJ1:=HJS.out _ _ _ HJ.out ⟨f1.mono (fun k hk=> .inl (List.mem_cons_of_mem _ hk)),h1⟩;have HB1:=Lib.hid (HB.out.fr f1 hBe);have HJ1:=Lib.hid hJ1;have c0:=HB1.out.cell 0;have c1:=HB1.out.cell 1;simp at c0 c1;obtain⟨fn,tmps,assign,body,hy,hR⟩:=HYx.out _ HJ1.out;have HM1:=Lib.hid h1;have HEQ:=Lib.hid (HB.out.cell 1);clear h1 f1 hJ1)|fail);refine hR.mono ?_;rintro e W3 ⟨kl,⟨rfl,hJ3⟩|⟨rfl,hJx3⟩⟩
   ·have hB3:Blk W3 Be 92 #[.pointer (some ⟨q.m,0,none⟩),.int .i64 x] :=(kl Be (by simp)).trans HB1.out
    have HB3:=Lib.hid hB3;have HJ3:=Lib.hid hJ3;have c0:=HB3.out.cell 0;have c1:=HB3.out.cell 1;simp at c0 c1;have HU3:=Lib.hid (HU.out W3 (HJM.out _ _ HJ3.out));clear hB3 hJ3 kl hR hy;gi_wp2_with (first|(refine⟨trivial,?_⟩;gi_at_call 194;refine(callsIn_wide.2 HU3.out).mono ?_;rintro e W4 ⟨rfl,h4,f4⟩;have HB4:=Lib.hid (HB3.out.fr f4 hBe);have hf4:=HB4.out.frozen 1;have c4:=HB4.out.cell 1;simp at c4;have H4:=Lib.hid (And.intro h4 f4);clear h4 f4)|fail);have hfB:Fr [Be] W4 (W4.setCell ⟨Be,1,none⟩ (.int .i64 (par x))):=(Fr.refl [Be] W4).setCell (p:=⟨Be,1,none⟩) (.inl (by simp)) _;have hB5:Blk (W4.setCell ⟨Be,1,none⟩ (.int .i64 (par x))) Be 92 #[.pointer (some ⟨q.m,0,none⟩),.int .i64 (par x)] :=by simpa using HB4.out.set 1 (.int .i64 (par x))
    have e5:=hB5.cell 1;have e0:=HEQ.out;simp only[List.getElem?_toArray,List.getElem?_cons_succ,List.getElem?_cons_zero]at e5 e0;refine⟨⟨pre++ [(x,s)],par x,HUP,Lib.hid (by rw[List.map_append,←HE.out,HS.out];simp),Lib.hid (HJS.out _ _ _ HJ3.out ⟨(H4.out.2.mono (fun k hk=> .inl (List.mem_cons_of_mem _ hk))).trans (hfB.mono (fun k hk=> .inl (by simp at hk;subst hk;simp))),HBG.out _ H4.out.1 _ hfB⟩),Lib.hid hB5⟩,?_⟩;rw[e5,e0];simp only[Option.getD_some,intOf,Int.toNat_natCast];rw[HS.out,List.length_cons];exact Nat.lt_succ_self _
   ·gi_wp2
    refine bodyPost_ret (results_none rfl _ _ _) rfl ?_;exact⟨⟨_,rfl⟩,.inr ⟨_,trivial,hJx3⟩⟩
end
end
section
open Go.RowKit Go.Shelf
attribute [local go_sem] Oper.semAt_some
def strC(l:List (List Nat)):List Value:=l.map fun s=>Value.string (strOf s)
theorem info_str:(Tryz.prog.info? 9).map (fun i=>(i.zero,i.size,i.bytes))=some (some (.string ⟨#[]⟩),1,16):=by kernel_rfl
theorem own_strs{W:World}{base:Nat}{v:Value}{L:List (List Nat)}(h:W.ownsRow base 9 1 v L.length (strC L))(hb:∀s∈L,∀b∈s,b<256)(h63:∀s∈L,s.length≤63):∃ad cap,v= .slice ad L.length cap∧L.length≤cap∧(ad=none→cap=0)∧StrA W ad L∧∀g o,ad=some ⟨g,o,none⟩→base≤g:=by
 obtain⟨h1,⟨h2,h3⟩|⟨g,cap,cur,rfl,hg0,hg,r1,r2,r3,r4⟩⟩:=h
 ·refine⟨none,0,by rw[h2,h3],by omega,fun _=>rfl,⟨fun i hi=>by omega,hb,fun s hs=>by have:=h63 s hs;omega,by omega⟩,(fun g o e=>by cases e)⟩
 ·rw[Nat.mul_one]at r4
  refine⟨some ⟨g,0,none⟩,cap,rfl,r1,(fun e=>by cases e),⟨fun i hi=>⟨g,0,rfl,?_,(Array.getElem?_eq_some_iff.1 hg).1⟩,hb,fun s hs=>by have:=h63 s hs;omega,by unfold maxLen at r2;omega⟩,(fun g' o e=>by cases e;exact hg0)⟩;have hc:=Blk.cell (g:=g) (t:=9) (cs:=cur) hg (0+i);rw[hc,Nat.zero_add,←Array.getElem?_toList];have e:(cur.toList.take L.length)[i]?=(strC L)[i]?:=by rw[r4]
  rw[List.getElem?_take_of_lt hi]at e;rw[e];simp[strC,hi]
theorem labOk_lt{s:List Nat}(h:labOk s=true):∀b∈s,b<256:=fun b hb=>by
 unfold labOk at h;simp only[Bool.and_eq_true]at h;have:=List.all_eq_true.1 h.2 b hb;unfold labB at this;simp at this;omega
section
variable {w0 w W W' : World} {q : MH} {u0 : TM} {l : List Nat} {par refs own : Nat → Nat} {B : Nat → List Nat} {nm : Nat → List (List Nat)} {fr x p a c : Nat} {b : List Nat}
theorem ceach_in(n:Nat)(x:Nat)(w:World):CallsIn Fence.wide n Tryz.prog 97 #[.agg #[.pointer (some ⟨q.m,0,none⟩),.int .i64 x]] w fun e w'=>e= .returned (.func (.func 193) #[] #[.pointer (some ⟨w.heap.size,0,none⟩)])∧w'=w.alloc (.cells #[.pointer (some ⟨q.m,0,none⟩),.int .i64 x] 92):=by
 refine callsIn_of_wp Tryz.func97 rfl trivial ?_ rfl;simp only[Tryz.ntmps97,List.size_toArray,List.length_cons,List.length_nil,Nat.reduceAdd,Nat.reduceSub,Array.replicate_succ,Array.replicate_zero,List.push_toArray,List.append_toArray,List.nil_append,List.cons_append];gi_wp2;go_ret;exact⟨rfl,rfl⟩
theorem cclip_in(n:Nat)(ad:Option Addr)(k cap:Nat)(w:World)(hk:k≤cap)(ha:ad=none→cap=0):CallsIn Fence.wide n Tryz.prog 98 #[.slice ad k cap] w fun e w'=>e= .returned (.slice ad k k)∧w'=w:=by
 have c1:(k:Int)≤cap:=by omega
 have c0:(0:Int)≤k:=by omega
 refine callsIn_of_wp Tryz.func98 rfl trivial ?_ rfl;simp only[Tryz.ntmps98,List.size_toArray,List.length_cons,List.length_nil,Nat.reduceAdd,Nat.reduceSub,Array.replicate_succ,Array.replicate_zero,List.push_toArray,List.append_toArray,List.nil_append,List.cons_append];gi_wp2;go_ret;exact⟨rfl,rfl⟩
theorem cname_in(n:Nat)(hn:4≤n)(h:CP w0 q u0 l par own nm fr w)(hx:x=0∨x∈l):CallsIn Fence.wide n Tryz.prog 40 #[.pointer (some ⟨q.m,0,none⟩),.int .i64 x] w fun e w'=> ∃ad,e= .returned (.tuple #[.slice ad (nm x).length (nm x).length,.int .i64 0])∧StrA w' ad (nm x)∧(∀g o,ad=some ⟨g,o,none⟩→w.heap.size≤g)∧CP w0 q u0 l par own nm fr w'∧Fr q.blocks w w':=by
 have h1:1≤n:=by omega
 obtain⟨i0,hi,hz0,hz1,hz2⟩:=info_parts info_str
 have hnl:=h.nmlen hx
 have HI:=Lib.hid (cis h hx)
 have OK:=Lib.hid h.bok
 have HX:=Lib.hid hx
 clear h hx
 refine callsIn_of_wp_marks Tryz.func40 rfl trivial ?_ rfl
 simp only[Tryz.ntmps40,List.size_toArray,List.length_cons,List.length_nil,Nat.reduceAdd,Nat.reduceSub,Array.replicate_succ,Array.replicate_zero,List.push_toArray,List.append_toArray,List.nil_append,List.cons_append]
 gi_wp2_with (first|(refine⟨trivial,?_⟩;gi_at_call 96;refine(callsIn_wide.2 HI.out).mono ?_;rintro e w1 ⟨rfl,h1',f1'⟩;have H1:=Lib.hid h1';have F1:=Lib.hid f1';clear h1' f1')|(refine⟨trivial,?_⟩;gi_at_call 97;refine(ceach_in _ _ _).mono ?_;rintro e w' ⟨rfl,rfl⟩)|fail)
 obtain⟨W0,hW0⟩: ∃W0,((w1.alloc (.cells #[.slice none 0 0] 33)).alloc (.cells #[.pointer (some ⟨q.m,0,none⟩),.int .i64 x] 92))=W0:=⟨_,rfl⟩
 have bL:Blk W0 w1.heap.size 33 #[.slice none 0 0] :=by rw[←hW0];exact(Blk.new w1 _ _).alloc _
 have bE:Blk W0 (w1.heap.size+1) 92 #[.pointer (some ⟨q.m,0,none⟩),.int .i64 x] :=by
  rw[←hW0]
  have:=Blk.new (w1.alloc (.cells #[.slice none 0 0] 33)) 92 #[.pointer (some ⟨q.m,0,none⟩),.int .i64 x]
  rwa[World.size_alloc]at this
 have f0:Fr [] w1 W0:=by rw[←hW0];exact((Fr.refl _ w1).alloc _).alloc _
 have hz:W0.heap.size=w1.heap.size+2:=by rw[←hW0];simp
 have hT0:=H1.out.fr0 f0
 have OK1:=H1.out.bok
 have hwl:w.heap.size≤w1.heap.size:=F1.out.size
 have fr0':Fr q.blocks w W0:=F1.out.trans f0.nil
 rw[hW0]
 clear hW0 f0 H1 F1
 generalize hLL:w1.heap.size=Lb at*
 have HLL:=Lib.hid hLL
 have hq: ∀k,Lb≤k→k∉q.blocks:=fun k hk hm=>by have:=OK1.q k hm;omega
 have hnb: ∀k,k<W0.heap.size→k∉ [W0.heap.size,W0.heap.size+1] :=fun k hk hm=>by simp at hm;omega
 have hmem: ∀k∈ [W0.heap.size,W0.heap.size+1],k∈q.blocks∨w.heap.size≤k:=fun k hk=>by simp at hk;exact .inr (by omega)
 have hEM: ∀A B S,CP w0 q u0 l par own nm fr A→Fr S A B→(∀k∈S,Lb≤k)→CP w0 q u0 l par own nm fr B:=fun A B S hM hf hS=>hM.frL OK1 hf hS
 refine wpIn_rngK rfl h1 (gf:=193) (lb:= #[.pointer (some ⟨Lb+1,0,none⟩)]) rfl trivial (enters_of Tryz.func193 (by kernel_rfl) rfl)
  (ceach1 (n-1) (by omega) (Lb+1) x HX.out (hq _ (by omega)) (fun A hA C hC=>hEM A C _ hA hC (fun k hk=>by simp at hk;omega))) (fun _=>rfl)
  (fun k hk=>by simp at hk;omega) (fun W hf=>bE.fr hf (hnb _ (by omega)))
  (fun A B hA hM hs=>⟨hs.1.keep2 hA ⟨fun hm=>by rcases List.mem_cons.1 hm with e|hm;omega;exact hq _ (by omega) hm,fun hm=>by rcases List.mem_cons.1 hm with e|hm;omega;exact hq _ (by omega) hm⟩,hs.1.size⟩)
  (fun pre W=>CP w0 q u0 l par own nm fr W∧Fr q.blocks w W∧ ∃v,Blk W Lb 33 #[v] ∧W.ownsRow Lb 9 1 v pre.length (strC (pre.map (·.2)))∧ ∀g,v.ownBlock=some g→W0.heap.size+1<g)
  (fun _ _ _=>False)
  (fun s A hh=>hh.1) (fun cd s A hh=>hh.elim)
  ?hI (fun cd s A B hh _=>hh.elim) ?hIs (fun cd s A B hh _=>hh.elim) ⟨hT0,fr0',_,bL,World.ownsRow_nil _ _ _ _,fun g e=>by simp[Value.ownBlock]at e⟩
  (fun y a' W=>a'={tmps:= #[.pointer (some ⟨q.m,0,none⟩),.int .i64 x,undef,undef,.slice none 0 0,.int .i64 0,.int .i64 0,.pointer (some ⟨Lb,0,none⟩),undef,.string (strOf y.2),.pointer (some ⟨q.m,0,none⟩),.int .i64 x,.int .i64 0,.int .i64 0,.bool false,undef,.pointer (some ⟨q.m,0,none⟩),.int .i64 x,.agg #[.pointer (some ⟨q.m,0,none⟩),.int .i64 x],.func (.func 193) #[] #[.pointer (some ⟨Lb+1,0,none⟩)],.int .i64 y.1,.string (strOf y.2),undef,undef,undef,undef,undef,undef],defers:= []})
  (fun y a' A B hh _=>hh) ?assign ?body ?done ?stop
 case hI=>exact fun s A B ⟨hM,hF,v,hL,hR,hO⟩ hf=>⟨hEM A B _ hM hf (fun k hk=>by simp at hk;omega),hF.step hf hmem,v,hL.fr hf (hnb _ (by omega)),own_hi hR hO hf (fun k hk=>by simp at hk;omega),hO⟩
 case hIs=>
  intro s A B ⟨hM,hF,v,hL,hR,hO⟩ hs
  have hm1: ∀k∈(Lb+1)::q.blocks,k=Lb+1∨k<Lb:=fun k hk=>by
   rcases List.mem_cons.1 hk with e|hk
   ·exact .inl e
   ·exact .inr (OK1.q k hk)
  refine⟨hs.2,hF.step hs.1 (fun k hk=> ?_),v,hL.fr hs.1 (fun hm=>by have:=hm1 _ hm;omega),own_hi hR hO hs.1 (fun k hk=>by have:=hm1 k hk;omega),hO⟩
  rcases List.mem_cons.1 hk with e|hk
  ·exact .inr (by omega)
  ·exact .inl hk
 case assign=>
  rintro lo pre y W K hW hi hK
  gi_wp2
  exact hK _ _ (Keep2.refl _ _) (KeepL.refl _ _) hi rfl
 case body=>
  rintro lo pre y a' W hW ⟨rest,hpr⟩ ⟨hM,hF,v,hL,hR,hO⟩ rfl
  have hc1:=hL.cell 0
  have hf1:=hL.frozen 0
  simp at hc1
  have hpl:pre.length+1≤1048576:=by
   have:=congrArg List.length hpr
   rw[List.length_append,List.length_map,List.length_cons]at this
   omega
  have hbw:Lb≤W.heap.size:=by omega
  have HL:=Lib.hid hL
  have HM:=Lib.hid hM
  have HF:=Lib.hid hF
  have HO:=Lib.hid hO
  clear hL hM hF hO hpr bL bE fr0' hT0
  have HKEY:=Lib.hid (fun(o:Oper) (a:Act) (ops:Array Oper) (rest:List Oper) (Q:Exit→Act→World→Prop) (h0:o.guard=none) (s x:Operand) (h3:o.op= .call {callee:= .builtin .append,args:= #[s,x],argTypes:= #[33,33]}) (h4:a.eval s=v) (h5:a.eval x= .slice (some ⟨W.heap.size,0,none⟩) 1 1)=>
   wpListIn_append_own_at (F:=Fence.wide.inRound lo) (nF:=n-1-1) (P:=Tryz.prog) (ops:=ops) (rest:=rest) (Q:=Q) (w:=W.alloc (.cells #[.string (strOf y.2)] 9)) h0 s x 33 h3 Lb 9 i0 (.string ⟨#[]⟩) 1 16 Tryz.underlying33 hi hz0 hz1 hz2 rfl (by decide) v _ _ h4 (hR.alloc _) ⟨W.heap.size,0,none⟩ 1 1 [.string (strOf y.2)] h5 rfl (cells_new1 _ _ _) (by simp[Value.oneCell']) (by unfold maxLen;omega) (by omega) (by simp;omega))
  clear hi
  gi_wp2_with (gi_at_builtin;refine HKEY.out _ _ _ _ _ rfl _ _ rfl rfl rfl ?_;intro v' w1 hown' hgrow _ hob;obtain⟨g',cap',rfl⟩:=ownsRow_succ hown';have hfg:=fr_grown hgrow;have hL1:=HL.out.fr hfg (fun hm=>by have:=HO.out Lb (ownS_mem hm);omega);have hc1:w1.cell? ⟨Lb,0,none⟩=some v:=hL1.cell 0;have hf1:=hL1.frozen 0)
  have hNL:Lb<W0.heap.size:=by omega
  have hfW:Fr (Lb::ownS v) W (w1.setCell ⟨Lb,0,none⟩ (.slice (some ⟨g',0,none⟩) (pre.length+1) cap')):=(hfg.mono (S':=Lb::ownS v) (fun k hk=> .inl (List.mem_cons_of_mem _ hk))).setCell (.inl (by simp)) _
  have hSm: ∀k∈Lb::ownS v,k=Lb∨W0.heap.size+1<k:=fun k hk=>by
   rcases List.mem_cons.1 hk with rfl|hk
   ·exact .inl rfl
   ·exact .inr (HO.out k (ownS_mem hk))
  refine⟨hfW.keep2 hW ⟨fun hm=>by have:=hSm _ hm;omega,fun hm=>by have:=hSm _ hm;omega⟩,hfW.keepL (fun k hk=>by simp at hk;subst hk;exact⟨by omega,fun hm=>by have:=hSm _ hm;omega⟩),hEM W _ _ HM.out hfW (fun k hk=>by have:=hSm k hk;omega),HF.out.step hfW (fun k hk=>by have:=hSm k hk;exact .inr (by omega)),_,by simpa using hL1.set 0 (.slice (some ⟨g',0,none⟩) (pre.length+1) cap'),?_,fun g hg=> ?_⟩
  ·have:=own_set hown' hL1 (by decide) 0 (.slice (some ⟨g',0,none⟩) (pre.length+1) cap')
   rw[List.length_append,List.length_singleton]
   have e:strC ((pre++ [y]).map (·.2))=strC (pre.map (·.2))++ [.string (strOf y.2)] :=by simp[strC]
   rw[e]
   exact this
  ·rcases hob with h|h
   ·rw[hg]at h;exact HO.out g h.symm
   ·rw[hg]at h
    injection h with h
    rw[h,World.size_alloc]
    omega
 case done=>
  rintro D xs W hD hxs ⟨hM,hF,v,hL,hR,hO⟩ hK
  have hc1:=hL.cell 0
  simp at hc1
  have hlab:=fun s (hs:s∈nm x)=>(show labOk s=true from by
   rcases HX.out with e|hx
   ·rw[e,hM.z]at hs;cases hs
   ·exact(hM.lab hx s hs).1)
  have hxl:xs.length=(nm x).length:=by rw[←hxs,List.length_map]
  rw[hxs,hxl]at hR
  have hfp:Fr [D] W (W.putObj D (.deferred none)):=Fr.putObj _ _ (by simp)
  have hR2:=(ownsRow_putObj hR (.deferred none) hK rfl)
  obtain⟨ad,cap,rfl,k1,k2,k3,k4⟩:=own_strs hR2 (fun s hs=>labOk_lt (hlab s hs)) (fun s hs=>(labOk_len (hlab s hs)).2)
  have HE:=Lib.hid (show StrA (W.putObj D (.deferred none)) ad (nm x)∧(∀g o,ad=some ⟨g,o,none⟩→w.heap.size≤g)∧CP w0 q u0 l par own nm fr (W.putObj D (.deferred none))∧Fr q.blocks w (W.putObj D (.deferred none))from
   ⟨k3,fun g o e=>Nat.le_trans hwl (k4 g o e),hEM _ _ _ hM hfp (fun k hk=>by simp at hk;subst hk;omega),hF.step hfp (fun k hk=>by simp at hk;subst hk;exact .inr (by omega))⟩)
  generalize hnn:(nm x).length=nn at*
  have HNN:=Lib.hid hnn
  clear hnn hlab hxs hxl hR hR2 k3 k4 hfp hM hF hL hO
  gi_wp2_with (first|(refine⟨trivial,?_⟩;gi_at_call 98;refine(cclip_in _ _ _ _ _ k1 k2).mono ?_;rintro e w' ⟨rfl,he⟩;rw[he];clear he)|fail)
  refine⟨by simp,.inl ⟨_,_,rfl,run_takeDeferred (w:=W) hK,?_⟩⟩
  refine⟨_,results_tmp2 rfl _ _ _,ad,?_,HE.out⟩
  rw[HNN.out]
  rfl
 case stop=>
  rintro D cd pre W hD _ hh hK
  exact hh.elim
theorem cname(h:CP w0 q u0 l par own nm fr w)(hx:x=0∨x∈l):Calls Tryz.prog 40 #[.pointer (some ⟨q.m,0,none⟩),.int .i64 x] w fun e w'=>∃ad,e= .returned (.tuple #[.slice ad (nm x).length (nm x).length,.int .i64 0])∧StrA w' ad (nm x)∧(∀g o,ad=some ⟨g,o,none⟩→w.heap.size≤g)∧CP w0 q u0 l par own nm fr w'∧Fr q.blocks w w':=
 callsIn_wide.1 (cname_in 4 (Nat.le_refl _) h hx)
theorem cdepth(h:CP w0 q u0 l par own nm fr w)(hx:x=0∨x∈l):Calls Tryz.prog 43 #[.pointer (some ⟨q.m,0,none⟩),.int .i64 x] w fun e w'=>e= .returned (.int .i64 (nm x).length)∧CP w0 q u0 l par own nm fr w'∧Fr q.blocks w w':=by
 have HN:=Lib.hid (cname h hx);generalize(nm x).length=n at*;clear h hx;go_enter Tryz.func43,Tryz.ntmps43;go_wp2_with fail;with_reducible refine HN.out.mono ?_
 rintro e w1 ⟨ad,rfl,h1,h2,h3⟩;have H3:=Lib.hid h3;clear h1 h2 h3 HN;go_wp2_with fail;go_ret;exact⟨rfl,H3.out⟩
end
end
end Go.Proofs.YtjjkfcnlgmbbcaaGreatDoor
