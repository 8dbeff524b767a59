/- Several texts in one. -/
import Derived.Test.YtolhkhdbgnciiaaGreatDoorMG
import Derived.Test.YtolhkhdbgnciiaaGreatDoorMO
namespace Go.Proofs.YtolhkhdbgnciiaaGreatDoor
open _root_.Go.Proofs.Tryz
open Go.Lib (hid)
open Go.IntWalk (i64_in)
set_option linter.unusedVariables false
set_option linter.unusedSimpArgs false
open Go.RowKit
set_option maxRecDepth 1000000
set_option maxHeartbeats 4000000
def sfx{α:Type}(N:List α)(k:Nat):List α:=N.drop (N.length-k)
theorem zkl{α:Type}(N:List α):sfx N 0= [] :=by simp[sfx]
theorem zp8{α:Type}(N:List α):sfx N N.length=N:=by simp[sfx]
theorem zed{α:Type}{N:List α}{k:Nat}(h:k≤N.length):(sfx N k).length=k:=by simp[sfx];omega
theorem zc3{α:Type}{N:List α}{k:Nat}(h:k<N.length):sfx N (k+1)=N[N.length-1-k]'(by omega)::sfx N k:=by
 unfold sfx;rw[List.drop_eq_getElem_cons (by omega:N.length-(k+1)<N.length)];congr 1
 ·congr 1;omega
 ·congr 1;omega
theorem zvs{α:Type}{N:List α}{j k:Nat}(h:j≤k)(hk:k≤N.length):∃s,sfx N k=s++sfx N j:=by
 refine⟨(sfx N k).take (k-j),?_⟩
 have e:sfx N j=(sfx N k).drop (k-j):=by
  unfold sfx;rw[List.drop_drop];congr 1;omega
 rw[e,List.take_append_drop]
structure Kn(l:List Nat)(nm:Nat→List (List Nat))(N:List (List Nat))(at_ k:Nat):Prop where
 le:k≤N.length
 pl:at_=0∨at_∈l
 ew:nm at_=sfx N k
 no:k<N.length→ ∀x∈l,nm x≠sfx N (k+1)
section
end
def zb4(L:List (List Nat)):Nat:=L.foldl (fun n s=>n+(s.length+1)) 1
def chkN(L:List (List Nat)):Nat:=if L.all zap=true then(if 255<zb4 L then 21 else 0)else 20
def lowN(L:List (List Nat)):List (List Nat):=L.map (fun s=>s.map lowB)
theorem zas(L:List (List Nat)):(lowN L).length=L.length:=by simp[lowN]
theorem zd0:∀(L:List (List Nat)) (n:Nat),n≤L.foldl (fun n s=>n+(s.length+1)) n
 | [],n=>Nat.le_refl _
 |s::L,n=>by
  have:=zd0 L (n+(s.length+1));rw[List.foldl_cons];omega
theorem zh9(L:List (List Nat))(k:Nat)(s:List Nat)(n:Nat)(h:L[k]?=some s):(L.take (k+1)).foldl (fun n s=>n+(s.length+1)) n=(L.take k).foldl (fun n s=>n+(s.length+1)) n+(s.length+1):=by
 rw[List.take_add_one,h,Option.toList_some,List.foldl_append];rfl
section
variable {w W : World} {fr p : Nat}
theorem zyz(w:World)(ad:Option Addr)(cap:Nat)(L:List (List Nat))(h:StrA w ad L):Calls prog 252 #[.slice ad L.length cap,.func (.func 191) #[] #[]] w fun e w'=>e= .returned (.int .i64 (if L.all zap=true then 0 else 20))∧Fr [] w w':=by
 have HA:=hid h;have hle:=h.len;obtain⟨n,hn⟩:∃n,L.length=n:=⟨_,rfl⟩;rw[hn];rw[hn]at hle;have HN:=hid hn;obtain⟨R,hR⟩:∃R:Int,(if L.all zap=true then(0:Int)else 20)=R:=⟨_,rfl⟩;rw[hR]
 have H20:=hid (fun(s:List Nat) (hs:s∈L) (hk:¬zap s=true)=>(show(20:Int)=R from by
  rw[←hR,if_neg];intro ha;exact hk (List.all_eq_true.1 ha s hs)))
 have H0:=hid (fun(hall:∀s∈L.take n,zap s=true)=>(show(0:Int)=R from by
  rw[←hR,if_pos];rw[←hn,List.take_length]at hall;exact List.all_eq_true.2 hall))
 clear hn h hR;go_enter func252,ntmps252;go_wp2_with fail;go_loopg [10] (n+1) (fun gk v10 W=>∃i:Nat,v10= .int .i64 i∧(i+gk=n+1∧i≤n)∧Hid (∀s∈L.take i,zap s=true)∧Hid (Fr [] w W));case atStart=>exact⟨0,rfl,by omega,hid (fun s hs=>by simp at hs),hid (Fr.refl [] w)⟩
 case round=>
  obtain⟨i,rfl,hi,HI,F3⟩:=hrel;by_cases hlt:i<n
  ·have hL:i<L.length:=by rw[HN.out];exact hlt
   obtain⟨g,o,rfl,hc,hg⟩:=HA.out.at_ i hL;have hc1:=(F3.out.cell (p:=⟨g,o+i,none⟩) hg (by simp)).trans hc;have hs:=HA.out.lt _ (List.getElem_mem hL);have hgd:L[i]?=some L[i] :=List.getElem?_eq_getElem hL;rw[hgd]at hc1;simp only[Option.getD_some]at hc1;have HM:=hid (List.getElem_mem hL);have HG:=hid hgd;generalize L[i]'hL=s at*;have HLb:=hid (fun V=>zn1 V s hs);have H20':=hid (fun hk=>H20.out s HM.out hk)
   have HI':=hid (fun hk:zap s=true=>(show∀t∈L.take (i+1),zap t=true from fun t ht=>by
    rw[List.take_add_one,HG.out,Option.toList_some]at ht;rcases List.mem_append.1 ht with h|h
    ·exact HI.out t h
    ·rw[List.mem_singleton]at h;rw[h];exact hk))
   have b6':decide (i<n)=true:=by simp;omega
   have i0:(0:Int)≤i:=by omega
   have i1:(i:Int)<n:=by omega
   have wi:=i64_in ((i:Int)+1) (by omega);generalize zag s=S at*;clear hc hs hL hgd;by_cases hk:zap s=true
   ·have HIk:=hid (HI'.out hk)
    rw[if_pos hk]at HLb;clear hk;go_wp2_with fail;with_reducible refine(HLb.out _).mono ?_
    rintro e w5 ⟨rfl,f5⟩;have F5:=hid (F3.out.trans f5);clear f5;go_wp2_with fail;go_roundg (gk-1);case measure=>omega
    case rel=>exact⟨i+1,by go_num,by omega,HIk,F5⟩
   ·have HR:=hid (H20'.out hk)
    rw[if_neg hk]at HLb;clear hk;go_wp2_with fail;with_reducible refine(HLb.out _).mono ?_
    rintro e w5 ⟨rfl,f5⟩;have F5:=hid (F3.out.trans f5);clear f5;go_wp2_with fail;go_ret;exact⟨by rw[←HR.out];rfl,F5.out⟩
  ·obtain rfl:i=n:=by omega
   have b6':decide (i<i)=false:=by simp
   have HR:=hid (H0.out HI.out);go_wp2_with fail;go_ret;exact⟨by rw[←HR.out];rfl,F3.out⟩
theorem z1c(w:World)(ad:Option Addr)(cap:Nat)(L:List (List Nat))(h:StrA w ad L)(hb:zb4 L≤1099511627776):Calls prog 253 #[.slice ad L.length cap] w fun e w'=>e= .returned (.int .i64 (zb4 L))∧w'=w:=by
 have HA:=hid h;have hle:=h.len;obtain⟨n,hn⟩:∃n,L.length=n:=⟨_,rfl⟩;have HX:=hid (fun k s (hs:L[k]?=some s)=>zh9 L k s 1 hs)
 have HB:=hid (fun k=>(show(L.take k).foldl (fun n s=>n+(s.length+1)) 1≤1099511627776 from by
  refine Nat.le_trans ?_ hb;unfold zb4;conv=>rhs;rw[←List.take_append_drop k L,List.foldl_append]
  exact zd0 _ _))
 have HZ:=hid (show(L.take 0).foldl (fun n s=>n+(s.length+1)) 1=1 from rfl);have HF:=hid (show(L.take n).foldl (fun n s=>n+(s.length+1)) 1=zb4 L from by rw[←hn,List.take_length];rfl);rw[←HF.out];obtain⟨M,hM⟩:∃M:Nat→Nat,(fun k=>(L.take k).foldl (fun n s=>n+(s.length+1)) 1)=M:=⟨_,rfl⟩;have hM':∀k,(L.take k).foldl (fun n s=>n+(s.length+1)) 1=M k:=fun k=>by rw[←hM]
 simp only[hM']at HX HB HZ⊢;rw[hn];rw[hn]at hle;have HN:=hid hn;clear hn h hM hM' HF hb;go_enter func253,ntmps253;go_wp2_with fail;go_loopg [3,8] (n+1) (fun gk v3 v8 W=>∃i:Nat,v3= .int .i64 (M i)∧v8= .int .i64 i∧(i+gk=n+1∧i≤n)∧w=W);case atStart=>exact⟨0,by rw[HZ.out];rfl,rfl,by omega,rfl⟩
 case round=>
  obtain⟨i,rfl,rfl,hi,rfl⟩:=hrel;by_cases hlt:i<n
  ·have hL:i<L.length:=by rw[HN.out];exact hlt
   obtain⟨g,o,rfl,hc,hg⟩:=HA.out.at_ i hL;have hgd:L[i]?=some L[i] :=List.getElem?_eq_getElem hL;rw[hgd]at hc;simp only[Option.getD_some]at hc;have hx:=HX.out i _ hgd;generalize L[i]'hL=s at*;have hb1:=HB.out (i+1);have hsz:=za4 s;obtain⟨k,hk⟩:∃k,s.length=k:=⟨_,rfl⟩;rw[hk]at hx hsz;have b6':decide (i<n)=true:=by simp;omega
   have i0:(0:Int)≤i:=by omega
   have i1:(i:Int)<n:=by omega
   have wi:=i64_in ((i:Int)+1) (by omega);have wk:=i64_in ((k:Int)+1) (by omega);have HS:=hid hx;have wm:IntKind.i64.wrap ((M i:Int)+((k:Int)+1))=(M i:Int)+((k:Int)+1):=i64_in _ (by omega);generalize zag s=S at*;clear hk hgd hL hx;go_wp2_with fail;go_roundg (gk-1);case measure=>omega
   case rel=>exact⟨i+1,by rw[HS.out];push_cast;rfl,by go_num,by omega,rfl⟩
  ·obtain rfl:i=n:=by omega
   have b6':decide (i<i)=false:=by simp
   go_wp2_with fail;go_ret;exact⟨rfl,rfl⟩
theorem zs4(w:World)(ad:Option Addr)(cap:Nat)(L:List (List Nat))(h:StrA w ad L)(hb:zb4 L≤1099511627776):Calls prog 184 #[.slice ad L.length cap] w fun e w'=>e= .returned (.int .i64 (chkN L))∧Fr [] w w':=by
 have h1:=zyz w ad cap L h;have H2:=hid (fun V (hV:Fr [] w V)=>z1c V ad cap L (h.fr hV) hb);by_cases hk:L.all zap=true
 ·rw[if_pos hk]at h1
  have HC:=hid (show(if 255<zb4 L then 21 else 0)=chkN L from by unfold chkN;rw[if_pos hk]);generalize L.length=n at*;generalize zb4 L=wl at*;clear h hk;go_enter func184,ntmps184;go_wp2_with fail;with_reducible refine h1.mono ?_
  rintro e w1 ⟨rfl,f1⟩;have h2:=H2.out _ f1;have F1:=hid f1;clear f1 h1;go_wp2_with fail;with_reducible refine h2.mono ?_
  rintro e w2 ⟨rfl,he⟩;rw[he];clear he h2;by_cases h5:255<wl
  ·have b1:decide ((255:Int)<wl)=true:=by simp;omega
   have b1':decide (255<wl)=true:=by simp;omega
   go_wp2_with fail;go_ret;exact⟨by rw[←HC.out,if_pos h5];rfl,F1.out⟩
  ·have b1:decide ((255:Int)<wl)=false:=by simp;omega
   have b1':decide (255<wl)=false:=by simp;omega
   go_wp2_with fail;go_ret;exact⟨by rw[←HC.out,if_neg h5];rfl,F1.out⟩
 ·rw[if_neg hk]at h1
  have HC:=hid (show 20=chkN L from by unfold chkN;rw[if_neg hk]);generalize L.length=n at*;clear h hk;go_enter func184,ntmps184;go_wp2_with fail;with_reducible refine h1.mono ?_
  rintro e w1 ⟨rfl,f1⟩;go_wp2_with fail;go_ret;exact⟨by rw[←HC.out];rfl,f1⟩
end
section
variable {w0 w W : World} {q : MH} {u0 : EW} {l : List Nat} {par own : Nat → Nat} {nm : Nat → List (List Nat)} {fr x p a : Nat} {b : List Nat}
theorem zza(h:CP w0 q u0 l par own nm fr w)(ad:Option Addr)(cap:Nat)(L:List (List Nat))(hA:StrA w ad L)(hAq:0<L.length→∀g o,ad=some ⟨g,o,none⟩→g∉q.blocks):Calls prog 185 #[.pointer (some ⟨q.m,0,none⟩),.slice ad L.length cap] w fun e w'=>∃at_ k:Nat,e= .returned (.tuple #[.int .i64 at_,.int .i64 k])∧Kn l nm (lowN L) at_ k∧CP w0 q u0 l par own nm fr w'∧Fr q.blocks w w':=by
 have HFi:=hid (fun W (hW:CP w0 q u0 l par own nm fr W) (a:Nat) (ha:a=0∨a∈l) (b:List Nat) (hb:∀k∈b,k<256)=>zyi hW ha hb);have HQ:=hid (fun g (hg:g<w.heap.size) (hn:g∉q.blocks) W (hW:Fr q.blocks w W) o v (hc:w.cell? ⟨g,o,none⟩=some v)=>(show W.cell? ⟨g,o,none⟩=some v from(hW.cell (p:=⟨g,o,none⟩) hg hn).trans hc));have HA:=hid hA;have H0:=hid h;have HZ:=hid h.z;have hle:=hA.len;obtain⟨n,hn⟩:∃n,L.length=n:=⟨_,rfl⟩;have HN:=hid hn;rw[hn]at hle⊢;have HAq:=hid hAq;clear h hA hAq hn;go_enter func185,ntmps185;go_wp2_with fail;refine wp_scope_jumps 0 (fun a' w'=>∃(at_ k:Nat) (u2 u3 u8 u9 u10 u11 u12 u13 u14 u15 u16 u17 u18 u19 u20 u21 u22 u23 u24 u25 u26 u27 u28 u29 u30 u31 u32 u33 u34 u35 u36:Value),a'={tmps:= #[.pointer (some ⟨q.m,0,none⟩),.slice ad n cap,u2,u3,.int .i64 0,.int .i64 0,.int .i64 at_,.int .i64 k,u8,u9,u10,u11,u12,u13,u14,u15,u16,u17,u18,u19,u20,u21,u22,u23,u24,u25,u26,u27,u28,u29,u30,u31,u32,u33,u34,u35,u36],defers:= []}∧k≤n∧Hid (at_=0∨at_∈l)∧Hid (nm at_=sfx (lowN L) k)∧Hid (CP w0 q u0 l par own nm fr w')∧Hid (Fr q.blocks w w')) (fun a' _=>n-(intOf (a'.tmps.getD 7 undef)).toNat) rfl ?_ ?_
 ·have HE:=hid (show nm 0=sfx (lowN L) 0 from by rw[HZ.out,zkl])
  have HC:=H0;have HF:=hid (Fr.refl q.blocks w);go_wp2_with fail;go_step3;by_cases hlt:0<n
  ·have hL:n-1-0<L.length:=by rw[HN.out];omega
   obtain⟨g,o,rfl,hc,hg⟩:=HA.out.at_ (n-1-0) hL;have hgd:L[n-1-0]?=some (L[n-1-0]'hL):=List.getElem?_eq_getElem hL;rw[hgd]at hc;simp only[Option.getD_some]at hc;have hs:=HA.out.lt _ (List.getElem_mem hL)
   have HSX:=hid (show sfx (lowN L) (0+1)=(L[n-1-0]'hL).map lowB::sfx (lowN L) 0 from by
    rw[zc3 (by rw[zas,HN.out];exact hlt)];congr 1;simp only[lowN,List.getElem_map,List.length_map,HN.out])
   have hcW:=HQ.out g hg (HAq.out (by omega) g o rfl) w HF.out _ _ hc;generalize L[n-1-0]'hL=s at*;have HFi':=hid (show Calls prog 254 #[.pointer (some ⟨q.m,0,none⟩),.int .i64 0,.string (zag s)] w _ from HFi.out _ HC.out 0 (.inl rfl) s hs);have HLE:=hid (show 0+1≤(lowN L).length from by rw[zas,HN.out];exact hlt);have w1:IntKind.i64.wrap ((n:Int)-1)=((n:Int)-1):=i64_in _ (by omega);have w2:IntKind.i64.wrap ((n:Int)-1-(0:Int))=((n-1-0:Nat):Int):=by rw[i64_in _ (by omega)];(try omega)
   have w3:IntKind.i64.wrap ((0:Int)+1)=((0+1:Nat):Int):=by rw[i64_in _ (by omega)];rfl
   have b1:((0:Int)==(n:Int))=false:=by rw[beq_eq_false_iff_ne];omega
   have b1':(0==n)=false:=by rw[beq_eq_false_iff_ne];omega
   have i0:(0:Int)≤(n:Int)-1:=by omega
   have i1:(n:Int)-1<n:=by omega
   rw[Nat.sub_zero]at hcW;generalize zag s=S at*;clear hc hgd hs hL;go_wp2_with fail;with_reducible refine HFi'.out.mono ?_
   rintro e w5 ⟨h5,f5,⟨x,rfl,hx,-,hnx⟩|⟨rfl,hno⟩⟩
   ·have H5:=hid h5
    have F5:=hid (HF.out.trans f5);have HX:=hid (show x=0∨x∈l from .inr hx);have HNX:=hid (show nm x=sfx (lowN L) (0+1)from by rw[HSX.out,←HE.out];exact hnx);clear h5 f5 hx hnx;go_wp2_with fail;go_step3;exact⟨rfl,x,0+1,_,_,_,_,_,_,_,_,_,_,_,_,_,_,_,_,_,_,_,_,_,_,_,_,_,_,_,_,_,_,_,by first|rfl|(congr 1;go_num),by omega,HX,HNX,H5,F5⟩
   ·have HK:=hid (show Kn l nm (lowN L) 0 0 from⟨Nat.le_trans (Nat.le_succ _) HLE.out,(Or.inl rfl),HE.out,fun _ x hx e=>hno x hx (by rw[e,HSX.out,HE.out])⟩)
    have H5:=hid h5;have F5:=hid (HF.out.trans f5);clear h5 f5 hno;go_wp2_with fail;try simp only[Exit.jump]
    go_ret2;exact⟨0,0,rfl,HK.out,H5.out,F5.out⟩
  ·obtain rfl:0=n:=by omega
   have b1:((0:Int)==(0:Int))=true:=by simp
   have HK:=hid (show Kn l nm (lowN L) 0 0 from⟨by rw[zas,HN.out];exact Nat.le_refl _,(Or.inl rfl),HE.out,fun hlt=>by rw[zas,HN.out]at hlt;omega⟩);go_wp2_with fail;try simp only[Exit.jump]
   go_ret2;exact⟨0,0,rfl,HK.out,HC.out,HF.out⟩
 ·rintro a' w' ⟨at_,k,u2,u3,u8,u9,u10,u11,u12,u13,u14,u15,u16,u17,u18,u19,u20,u21,u22,u23,u24,u25,u26,u27,u28,u29,u30,u31,u32,u33,u34,u35,u36,rfl,hk,HP,HE,HC,HF⟩
  by_cases hlt:k<n
  ·have hL:n-1-k<L.length:=by rw[HN.out];omega
   obtain⟨g,o,rfl,hc,hg⟩:=HA.out.at_ (n-1-k) hL;have hgd:L[n-1-k]?=some (L[n-1-k]'hL):=List.getElem?_eq_getElem hL;rw[hgd]at hc;simp only[Option.getD_some]at hc;have hs:=HA.out.lt _ (List.getElem_mem hL)
   have HSX:=hid (show sfx (lowN L) (k+1)=(L[n-1-k]'hL).map lowB::sfx (lowN L) k from by
    rw[zc3 (by rw[zas,HN.out];exact hlt)];congr 1;simp only[lowN,List.getElem_map,List.length_map,HN.out])
   have hcW:=HQ.out g hg (HAq.out (by omega) g o rfl) w' HF.out _ _ hc;generalize L[n-1-k]'hL=s at*;have HFi':=hid (HFi.out _ HC.out at_ HP.out s hs);have HLE:=hid (show k+1≤(lowN L).length from by rw[zas,HN.out];exact hlt);have w1:IntKind.i64.wrap ((n:Int)-1)=((n:Int)-1):=i64_in _ (by omega);have w2:IntKind.i64.wrap ((n:Int)-1-(k:Int))=((n-1-k:Nat):Int):=by rw[i64_in _ (by omega)];(try omega)
   have w3:IntKind.i64.wrap ((k:Int)+1)=((k+1:Nat):Int):=by rw[i64_in _ (by omega)];push_cast;rfl
   have b1:((k:Int)==(n:Int))=false:=by rw[beq_eq_false_iff_ne];omega
   have b1':(k==n)=false:=by rw[beq_eq_false_iff_ne];omega
   have i0:(0:Int)≤((n-1-k:Nat):Int):=by omega
   have i1:((n-1-k:Nat):Int)<n:=by omega
   generalize zag s=S at*;generalize n-1-k=ix at*;clear hc hgd hs hL;go_wp2_with fail;with_reducible refine HFi'.out.mono ?_
   rintro e w5 ⟨h5,f5,⟨x,rfl,hx,-,hnx⟩|⟨rfl,hno⟩⟩
   ·have H5:=hid h5
    have F5:=hid (HF.out.trans f5);have HX:=hid (show x=0∨x∈l from .inr hx);have HNX:=hid (show nm x=sfx (lowN L) (k+1)from by rw[HSX.out,←HE.out];exact hnx);clear h5 f5 hx hnx;go_wp2_with fail;go_step3;exact⟨rfl,⟨x,k+1,_,_,_,_,_,_,_,_,_,_,_,_,_,_,_,_,_,_,_,_,_,_,_,_,_,_,_,_,_,_,_,by first|rfl|(congr 1;go_num),by omega,HX,HNX,H5,F5⟩,by simp[intOf];omega⟩
   ·have HK:=hid (show Kn l nm (lowN L) at_ k from⟨Nat.le_trans (Nat.le_succ _) HLE.out,HP.out,HE.out,fun _ x hx e=>hno x hx (by rw[e,HSX.out,HE.out])⟩)
    have H5:=hid h5;have F5:=hid (HF.out.trans f5);clear h5 f5 hno;go_wp2_with fail;try simp only[Exit.jump]
    go_ret2;exact⟨at_,k,rfl,HK.out,H5.out,F5.out⟩
  ·obtain rfl:k=n:=by omega
   have b1:((k:Int)==(k:Int))=true:=by simp
   have HK:=hid (show Kn l nm (lowN L) at_ k from⟨by rw[zas,HN.out];exact Nat.le_refl _,HP.out,HE.out,fun hlt=>by rw[zas,HN.out]at hlt;omega⟩);go_wp2_with fail;try simp only[Exit.jump]
   go_ret2;exact⟨at_,k,rfl,HK.out,HC.out,HF.out⟩
end
section
variable {w0 w W W' : World} {q : MH} {u0 : EW} {l : List Nat} {par refs own : Nat → Nat} {B : Nat → List Nat} {nm : Nat → List (List Nat)} {fr x p a : Nat} {b : List Nat}
theorem zia(P:World→Prop)(h:∀W',Fr [] W W'→Calls prog 255 #[.pointer (some ⟨q.m,0,none⟩),.int .i64 x] W' fun e w'=>e= .returned (.int .i64 0)∧P w'):Calls prog 187 #[.agg #[.pointer (some ⟨q.m,0,none⟩),.int .i64 x]] W fun e w'=>e= .returned (.tuple #[])∧P w':=by
 have H:=hid (h _ ((Fr.refl [] W).alloc (.cells #[.pointer (some ⟨q.m,0,none⟩),.int .i64 x] 234)));clear h;go_enter func187,ntmps187;go_wp2_with fail;with_reducible refine H.out.mono ?_
 rintro e w1 ⟨rfl,h1⟩;go_wp2_with fail;go_end0;exact⟨rfl,h1⟩
theorem zst(P:World→Prop)(h:∀W',Fr [] W W'→Calls prog 115 #[.pointer (some ⟨q.m,0,none⟩),.int .i64 x] W' fun e w'=>(∃v,e= .returned v)∧P w'):Calls prog 194 #[.agg #[.pointer (some ⟨q.m,0,none⟩),.int .i64 x]] W fun e w'=>e= .returned (.tuple #[])∧P w':=by
 have H:=hid (h _ ((Fr.refl [] W).alloc (.cells #[.pointer (some ⟨q.m,0,none⟩),.int .i64 x] 234)));clear h;go_enter func194,ntmps194;go_wp2_with fail;with_reducible refine H.out.mono ?_
 rintro e w1 ⟨⟨v,rfl⟩,h1⟩;go_wp2_with fail;go_end0;exact⟨rfl,h1⟩
theorem zk7(f:Value):Calls prog 186 #[.agg #[.pointer (some ⟨q.m,0,none⟩),.int .i64 0],f] W fun e w'=>e= .returned (.tuple #[])∧Fr [] W w':=by
 have F0:=hid ((Fr.refl [] W).alloc (.cells #[.pointer (some ⟨q.m,0,none⟩),.int .i64 0] 234));go_enter func186,ntmps186;go_wp2_with fail;go_end0;exact⟨rfl,F0.out⟩
theorem zhy(hx:x≠0)(P:World→Prop)(h:∀W',Fr [] W W'→Calls prog 255 #[.pointer (some ⟨q.m,0,none⟩),.int .i64 x] W' fun e w'=>e= .returned (.int .i64 0)∧P w'):Calls prog 186 #[.agg #[.pointer (some ⟨q.m,0,none⟩),.int .i64 x],.func (.func 187) #[] #[]] W fun e w'=>e= .returned (.tuple #[])∧P w':=by
 have F0:=(Fr.refl [] W).alloc (.cells #[.pointer (some ⟨q.m,0,none⟩),.int .i64 x] 234);have H:=hid (zia (W:=W.alloc (.cells #[.pointer (some ⟨q.m,0,none⟩),.int .i64 x] 234)) P (fun W' hW=>h W' (F0.trans hW)));have bx:((x:Int) !=0)=true:=by simp;omega
 have bx':(x !=0)=true:=by simp;omega
 clear h hx F0;go_enter func186,ntmps186;go_wp2_with fail;with_reducible refine H.out.mono ?_
 rintro e w1 ⟨rfl,h1⟩;go_wp2_with fail;go_end0;exact⟨rfl,h1⟩
theorem zi4(hx:x≠0)(P:World→Prop)(h:∀W',Fr [] W W'→Calls prog 115 #[.pointer (some ⟨q.m,0,none⟩),.int .i64 x] W' fun e w'=>(∃v,e= .returned v)∧P w'):Calls prog 186 #[.agg #[.pointer (some ⟨q.m,0,none⟩),.int .i64 x],.func (.func 194) #[] #[]] W fun e w'=>e= .returned (.tuple #[])∧P w':=by
 have F0:=(Fr.refl [] W).alloc (.cells #[.pointer (some ⟨q.m,0,none⟩),.int .i64 x] 234);have H:=hid (zst (W:=W.alloc (.cells #[.pointer (some ⟨q.m,0,none⟩),.int .i64 x] 234)) P (fun W' hW=>h W' (F0.trans hW)));have bx:((x:Int) !=0)=true:=by simp;omega
 have bx':(x !=0)=true:=by simp;omega
 clear h hx F0;go_enter func186,ntmps186;go_wp2_with fail;with_reducible refine H.out.mono ?_
 rintro e w1 ⟨rfl,h1⟩;go_wp2_with fail;go_end0;exact⟨rfl,h1⟩
def ownP(own:Nat→Nat)(a:Nat):Nat→Nat:=if a=0 then own else up own a (own a+1)
def PinP(w0:World)(q:MH)(u0:EW)(l:List Nat)(par own:Nat→Nat)(nm:Nat→List (List Nat))(fr ck:Nat)(N:List (List Nat))(e:Ending)(w':World):Prop:=
 (ck≠0∧e= .returned (.tuple #[.int .i64 0,.int .i64 0,.int .i64 ck])∧CP w0 q u0 l par own nm fr w')∨(ck=0∧ ∃at_ k:Nat,e= .returned (.tuple #[.int .i64 at_,.int .i64 k,.int .i64 0])∧Kn l nm N at_ k∧CP w0 q u0 l par (ownP own at_) nm fr w')
theorem z1e(h:CP w0 q u0 l par own nm fr w)(ad:Option Addr)(cap:Nat)(L:List (List Nat))(hA:StrA w ad L)(hAq:0<L.length→∀g o,ad=some ⟨g,o,none⟩→g∉q.blocks)(hb:zb4 L≤1099511627776)(ho:∀y,own y≤4000000000):Calls prog 93 #[.pointer (some ⟨q.m,0,none⟩),.slice ad L.length cap] w fun e w'=>Fr q.blocks w w'∧PinP w0 q u0 l par own nm fr (chkN L) (lowN L) e w':=by
 have HC:=(show∃a s:Nat,(7≤a)∧Hid (Calls prog 81 #[.pointer (some ⟨q.m,0,none⟩)] w fun e w'=>e= .returned (cfgV a s)∧Fr [] w w')from by
  obtain⟨refs,B,⟨S,LL,u,E,B0,g,_⟩,_⟩:=h;have ha:=g.wb.h.m.ok.cfg.a1;exact⟨u.a,u.s,ha,hid (zca g.wb.h.m)⟩)
 obtain⟨a0,s0,ha0,HC⟩:=HC;have hE:=za7 a0 s0 ha0;have HCk:=hid (fun W (hW:Fr [] w W)=>zs4 W ad cap L (hA.fr hW) hb);have HKn:=hid (fun W (hW:Fr [] w W)=>zza (h.fr0 hW) ad cap L (hA.fr hW) hAq)
 have HU:=hid (fun(at_:Nat) W (hW:CP w0 q u0 l par own nm fr W) (ha:at_=0∨at_∈l)=>(show Calls prog 186 #[.agg #[.pointer (some ⟨q.m,0,none⟩),.int .i64 at_],.func (.func 187) #[] #[]] W fun e w'=>e= .returned (.tuple #[])∧(CP w0 q u0 l par (ownP own at_) nm fr w'∧Fr q.blocks W w')from by
  by_cases h0:at_=0
  ·subst h0
   exact(zk7 _).mono fun e w' ⟨he,hf⟩=>⟨he,by unfold ownP;rw[if_pos rfl];exact hW.fr0 hf,hf.nil⟩
  ·refine zhy h0 _ (fun W' hf=> ?_)
   refine(z0b (hW.fr0 hf) (ha.resolve_left h0) (ho _)).mono fun e w' ⟨k1,k2,k3⟩=>⟨k1,?_,hf.nil.trans k3⟩;unfold ownP;rw[if_neg h0];exact k2))
 have H0:=hid h;unfold cfgV at HC;generalize L.length=n at*;generalize hck:chkN L=ck at*;clear h hA hAq hck ha0;go_enter func93,ntmps93;go_wp2_with fail;with_reducible refine HC.out.mono ?_
 rintro e w1 ⟨rfl,f1⟩;have F1:=hid f1;clear f1 HC;go_wp2_with fail;with_reducible refine(HCk.out _ F1.out).mono ?_
 rintro e w2 ⟨rfl,f2⟩;have F2:=hid (F1.out.trans f2);clear f2 HCk F1;by_cases hc:ck=0
 ·subst hc
  go_wp2_with fail;with_reducible refine(HKn.out _ F2.out).mono ?_
  rintro e w3 ⟨at_,k,rfl,h1,h2,h3⟩;have HK:=hid h1;have F3:=hid (F2.out.nil.trans h3);have HU':=hid (HU.out at_ w3 h2 h1.pl);clear h1 h2 h3 HKn HU;go_wp2_with fail;with_reducible refine HU'.out.mono ?_
  rintro e w4 ⟨rfl,h4,f4⟩;have H4:=hid h4;have F4:=hid (F3.out.trans f4);clear h4 f4 HU';go_wp2_with fail;go_returns;exact⟨F4.out,.inr ⟨rfl,at_,k,rfl,HK.out,H4.out⟩⟩
 ·have b1:((ck:Int) !=0)=true:=by simp;omega
  have b1':(ck !=0)=true:=by simp;omega
  have HCK:=hid hc;clear hc HKn HU;go_wp2_with fail;go_returns;exact⟨F2.out.nil,.inl ⟨HCK.out,rfl,H0.out.fr0 F2.out⟩⟩
theorem zp4(h:CP w0 q u0 l par own nm fr W)(hx:x∈l)(k:Nat)(ho:own x=k+1):Calls prog 40 #[.pointer (some ⟨q.m,0,none⟩),.int .i64 x] W fun e w'=>∃n l1 fr1,e= .returned (.tuple #[.int .i64 (n:Nat),.int .i64 0])∧Fr q.blocks W w'∧CP w0 q u0 l1 par (up own x k) nm fr1 w'∧Rem (up own x k) par l l1∧n+l1.length=l.length:=by
 have HL:=hid (zz3 h hx k ho);have hx0:=(h.rng hx).1;have bx:((x:Int)==0)=false:=by simp;omega
 have bx':(x==0)=false:=by simp;omega
 clear h hx ho hx0;go_enter func40,ntmps40;go_wp2_with fail;with_reducible refine HL.out.mono ?_
 rintro e w1 ⟨n,l1,fr1,rfl,h1⟩;have H1:=hid h1;clear h1 HL;go_wp2_with fail;go_ret2;exact⟨n,l1,fr1,rfl,H1.out⟩
theorem zfp:Calls prog 40 #[.pointer (some ⟨q.m,0,none⟩),.int .i64 0] W fun e w'=>e= .returned (.tuple #[.int .i64 0,.int .i64 0])∧w'=W:=by
 go_enter func40,ntmps40;go_wp2_with fail;go_ret2;exact⟨rfl,rfl⟩
def ownG(own:Nat→Nat)(x p:Nat):Nat→Nat:=if p=0 then up own x 1 else up (up own x 1) p (own p-1)
theorem zxo(h:CPT w0 q u0 l par own nm x (clsN (16+b.length)) W)(hp:p=0∨(p∈l∧own p≠0))(hb:∀k∈b,k<256)(hk:zap b=true)(hno:∀y∈l,nm y≠b.map lowB::nm p)(ho:p≠0→own p≤4000000000)(hf:l.length≤224):Calls prog 96 #[.pointer (some ⟨q.m,0,none⟩),.int .i64 p,.int .i64 x,.string (zag b)] W fun e w'=>e= .returned (.int .i64 0)∧Fr q.blocks W w'∧x∉l∧x≠0∧p≠x∧∃fr,CP w0 q u0 (l++ [x]) (up par x p) (ownG own x p) (up nm x (b.map lowB::nm p)) fr w':=by
 have hp':p=0∨p∈l:=hp.imp id And.left;have HMk:=hid (zzl h hp' hb hk hno ho hf)
 have HNE:=hid (show x∉l∧x≠0 from by
  obtain⟨refs,B,h1,_⟩:=h;exact⟨h1.ne.1,h1.ne.2.1⟩)
 have HPX:=hid (show p≠x from fun e=>by
  rcases hp' with k|k
  ·exact HNE.out.2 (e.symm.trans k)
  ·exact HNE.out.1 (e▸k))
 have HHo:=hid (fun W (hW:CPM w0 q u0 l (up par x p) own (up nm x (b.map lowB::nm p)) p x W)=>(show Calls prog 187 #[.agg #[.pointer (some ⟨q.m,0,none⟩),.int .i64 x]] W fun e w'=>e= .returned (.tuple #[])∧(Fr q.blocks W w'∧∃fr,CP w0 q u0 (l++ [x]) (up par x p) (up own x 1) (up nm x (b.map lowB::nm p)) fr w')from
  zia _ (fun W' hf=>(zxw (hW.fr0 hf)).mono fun e w' ⟨k1,k2,k3⟩=>⟨k1,hf.nil.trans k2,k3⟩)))
 have HLe:=hid (fun W (fr:Nat) (hW:CP w0 q u0 (l++ [x]) (up par x p) (up own x 1) (up nm x (b.map lowB::nm p)) fr W)=>(show Calls prog 186 #[.agg #[.pointer (some ⟨q.m,0,none⟩),.int .i64 p],.func (.func 194) #[] #[]] W fun e w'=>e= .returned (.tuple #[])∧(Fr q.blocks W w'∧∃fr,CP w0 q u0 (l++ [x]) (up par x p) (ownG own x p) (up nm x (b.map lowB::nm p)) fr w')from by
  unfold ownG;by_cases h0:p=0
  ·subst h0
   rw[if_pos rfl];exact(zk7 _).mono fun e w' ⟨he,hf⟩=>⟨he,hf.nil,fr,hW.fr0 hf⟩
  ·rw[if_neg h0]
   obtain⟨hpl,hop⟩:=hp.resolve_left h0;refine zi4 h0 _ (fun W' hf=> ?_);refine(zzt (hW.fr0 hf) (List.mem_append_left _ hpl) (own p-1) (by rw[zac _ _ HPX.out];omega) ⟨x,List.mem_append_right _ (List.mem_singleton.2 rfl),zaa _ _ _⟩).mono fun e w' ⟨k1,k2,k3⟩=>⟨⟨_,k1⟩,hf.nil.trans k2,k3⟩))
 generalize zag b=s at*;clear h hp hp' hb hk hno ho hf;go_enter func96,ntmps96;go_wp2_with fail;with_reducible refine HMk.out.mono ?_
 rintro e w1 ⟨rfl,f1,h1⟩;have F1:=hid f1;have H1:=hid (HHo.out _ h1);clear f1 h1 HMk HHo;go_wp2_with fail;with_reducible refine H1.out.mono ?_
 rintro e w2 ⟨rfl,f2,fr2,h2⟩;have F2:=hid (F1.out.trans f2);have H2:=hid (HLe.out _ _ h2);clear f2 h2 F1 H1 HLe;go_wp2_with fail;with_reducible refine H2.out.mono ?_
 rintro e w3 ⟨rfl,f3,h3⟩;have F3:=hid (F2.out.trans f3);have H3:=hid h3;clear f3 h3 F2 H2;go_wp2_with fail;go_ret;exact⟨rfl,F3.out,HNE.out.1,HNE.out.2,HPX.out,H3.out⟩
end
section
end
section
open Go.RowKit Go.Shelf
attribute [local go_sem] Oper.semAt_some
section
variable {w0 W : World} {q : MH} {u0 : EW} {l : List Nat} {par refs own : Nat → Nat} {B : Nat → List Nat} {nm : Nat → List (List Nat)} {fr x p : Nat}
theorem zor(h:CP w0 q u0 l par own nm fr W):∀(n:Nat) {y:Nat},(y=0∨y∈l)→(nm y).length=n→∃p:List Nat,p.length=n∧p.Nodup∧∀z∈p,z∈l∧(nm z).length≤n
 |0,y,hy,hn=>⟨[],rfl,List.nodup_nil,fun z hz=>(nomatch hz)⟩
 |n+1,y,hy,hn=>by
  have hyl:y∈l:=hy.resolve_left (fun e=>by rw[e,h.z]at hn;simp at hn);obtain⟨refs,B,h1,h2,h3⟩:=h;have e:=h2.s y hyl;rw[e,List.length_cons]at hn;obtain⟨p,p1,p2,p3⟩:=zor ⟨refs,B,h1,h2,h3⟩ n (h1.up hyl) (by omega);refine⟨y::p,by simp[p1],List.nodup_cons.2 ⟨fun hm=> ?_,p2⟩,fun z hz=> ?_⟩
  ·have:=(p3 y hm).2
   rw[e,List.length_cons]at this;omega
  ·rcases List.mem_cons.1 hz with e2|hz
   ·rw[e2];exact⟨hyl,by rw[e,List.length_cons];omega⟩
   ·exact⟨(p3 z hz).1,by have:=(p3 z hz).2;omega⟩
theorem CP.nmlen(h:CP w0 q u0 l par own nm fr W){y:Nat}(hy:y=0∨y∈l):(nm y).length≤224:=by
 obtain⟨p,p1,p2,p3⟩:=zor h _ hy rfl;have:=zes p2 (fun z hz=>(p3 z hz).1);have:=h.few;omega
theorem CP.hd(h:CP w0 q u0 l par own nm fr W)(hx:x∈l):∃s,nm x=s::nm (par x)∧(∀k∈s,k<256)∧Calls prog 151 #[.pointer (some ⟨q.m,0,none⟩),.int .i64 x] W fun e w'=>e= .returned (.tuple #[.string (zag s),.int .i64 0])∧CP w0 q u0 l par own nm fr w'∧Fr q.blocks W w':=by
 obtain⟨refs,B,h1,h2⟩:=h;refine⟨_,h2.1.s x hx,fun k hk=> ?_,(zud h1 hx).mono fun e w' ⟨he,g1,g2⟩=>⟨he,⟨refs,B,g1,h2⟩,g2⟩⟩;obtain⟨S,L,u,E,B0,g,ha,hrt,r,hf⟩:=h1;rw[←(r x hx).2.2]at hk;exact(g.wb.ct x ((g.mem x).1 hx).1).lt k hk
end
end
section
open Go.RowKit Go.Shelf
attribute [local go_sem] Oper.semAt_some
section
variable {w : World} {q : MH} {x : Nat}
theorem zqz(n:Nat)(x:Nat)(w:World):CallsIn Fence.wide n prog 234 #[.agg #[.pointer (some ⟨q.m,0,none⟩),.int .i64 x]] w fun e w'=>e= .returned (.func (.func 278) #[] #[.pointer (some ⟨w.heap.size,0,none⟩)])∧w'=w.alloc (.cells #[.pointer (some ⟨q.m,0,none⟩),.int .i64 x] 234):=by
 refine callsIn_of_wp func234 rfl trivial ?_ rfl;simp only[ntmps234,List.size_toArray,List.length_cons,List.length_nil,Nat.reduceAdd,Nat.reduceSub,Array.replicate_succ,Array.replicate_zero,List.push_toArray,List.append_toArray,List.nil_append,List.cons_append];gi_wp2;go_ret;exact⟨rfl,rfl⟩
theorem zq5(n:Nat)(ad:Option Addr)(k cap:Nat)(w:World)(hk:k≤cap)(ha:ad=none→cap=0):CallsIn Fence.wide n prog 235 #[.slice ad k cap] w fun e w'=>e= .returned (.slice ad k k)∧w'=w:=by
 have c1:(k:Int)≤cap:=by omega
 have c0:(0:Int)≤k:=by omega
 refine callsIn_of_wp func235 rfl trivial ?_ rfl;simp only[ntmps235,List.size_toArray,List.length_cons,List.length_nil,Nat.reduceAdd,Nat.reduceSub,Array.replicate_succ,Array.replicate_zero,List.push_toArray,List.append_toArray,List.nil_append,List.cons_append];gi_wp2;go_ret;exact⟨rfl,rfl⟩
end
end
end Go.Proofs.YtolhkhdbgnciiaaGreatDoor
