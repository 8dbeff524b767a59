/- Several texts in one. -/
import Derived.Test.YtghllbkjghnmhaaGreatDoorVA
namespace Go.Proofs.YtghllbkjghnmhaaGreatDoor
open _root_.Go.Proofs.Tryz
open Go.Lib (hid)
open Go.IntWalk (i64_in)
set_option linter.unusedVariables false
set_option linter.unusedSimpArgs false
open Go.RowKit
set_option maxRecDepth 1000000
set_option maxHeartbeats 4000000
structure IsG(W:World)(p:Nat)(ad:Option Addr)(cap:Nat)(R:List Nat)(b:Nat):Prop where
 st:Blk W p 71 #[.slice ad R.length cap,b]
 row:RowV W (p+1) ad cap R
section
variable{w W W':World}{p:Nat}{ad:Option Addr}{cap:Nat}{R:List Nat}{b x:Nat}
theorem IsG.fr{S:List Nat}(h:IsG W p ad cap R b)(hf:Fr S W W')(hS:∀k∈S,k<p):IsG W' p ad cap R b:=
 ⟨h.st.fr hf (fun hm=>Nat.lt_irrefl _ (hS p hm)),h.row.fr hf (fun k hk=>Nat.lt_succ_of_lt (hS k hk))⟩
theorem IsG.fr0(h:IsG W p ad cap R b)(hf:Fr [] W W'):IsG W' p ad cap R b:=h.fr hf (by simp)
def fnd(R:List Nat)(x:Nat):Int:=if x∈R then(R.idxOf x:Int)else-1
theorem zte(h:x∉R):fnd R x= -1:=if_neg h
theorem ztf{A B:List Nat}(h:x∉A):fnd (A++x::B) x=A.length:=by
 unfold fnd;rw[if_pos (List.mem_append.2 (.inr (List.mem_cons_self ..))),List.idxOf_append,if_neg h,List.idxOf_cons_self,Nat.zero_add]
theorem ztg{k:Nat}(hk:k<R.length)(he:R[k] =x)(hn:∀j (h:j<k),R[j]'(by omega)≠x):fnd R x=k:=by
 have h1:R=R.take k++x::R.drop (k+1):=by
  conv=>lhs;rw[←List.take_append_drop k R,List.drop_eq_getElem_cons hk,he]
 have h2:x∉R.take k:=fun hm=>by
  obtain⟨j,hj,e⟩:=List.mem_iff_getElem.1 hm;rw[List.length_take]at hj;rw[List.getElem_take]at e;exact hn j (by omega) e
 have:=ztf (B:=R.drop (k+1)) h2;rw[←h1,List.length_take]at this;rw[this];congr 1;omega
theorem zth(hn:∀j (h:j<R.length),R[j]≠x):fnd R x= -1:=zte (fun hm=>by
 obtain⟨j,hj,e⟩:=List.mem_iff_getElem.1 hm;exact hn j hj e)
theorem zti(h:IsG w p ad cap R b)(hl:R.length≤1048576)(x:Nat):Calls prog 180 #[some p,x] w (zN (fnd R x) w):=by
 have H:=h;generalize hn:R.length=n at*;have HN:=hid hn;clear h hn;go_in;go_wp2;go_loopw [5] (fun i W=>∃k:Nat,k≤n∧i= .int .i64 k∧Fr [] w W∧Hid (∀j (h:j<k) (h':j<R.length),R[j]≠x)) (fun i _=>n-(intOf i).toNat);case atStart=>exact⟨0,by omega,rfl,Fr.refl _ _,hid (fun j h=>absurd h (Nat.not_lt_zero _))⟩
 case round=>
  obtain⟨k,hk,rfl,hF,hno⟩:=hrel;have hB:=(H.fr0 hF).st;rw[HN.out]at hB;have d0:=hB.cell 0;simp at d0;by_cases hlt:k<n
  ·have hkl:k<R.length:=by have:=HN.out;omega
   obtain⟨g1,rfl,_,r1⟩:=H.row (by omega);have cY:=(r1.fr hF (by simp)).cell k hkl;have b1':=dT (k<n);have hg2:(0:Int)≤k:=by omega
   have hg3:(k:Int)<n:=by omega
   have w1:=i6 ((k:Int)+1);have hHit:=hid (fun(e:R[k] =x)=>ztg hkl e (fun j h=>hno.out j h (by omega)))
   have hMis:=hid (fun(e:R[k]≠x)=>(show∀j (h:j<k+1) (h':j<R.length),R[j]≠x from fun j h h'=>by
    rcases Nat.lt_or_ge j k with h1|h1
    ·exact hno.out j h1 h'
    ·have:j=k:=by omega
     subst this;exact e))
   have hno':=hno;clear hno;generalize R[k] =y at*;by_cases hxy:y=x
   ·subst hxy
    clear r1 hB;go_wp2;go_ret;exact⟨by rw[hHit.out (by first|exact rfl|trivial)];rfl,hF⟩
   ·have e1:((y:Int)==x)=false:=by simp;omega
    clear r1 hB;go_wp2;go_roundw;case rel=>exact⟨k+1,by omega,by go_num,hF,hid (hMis.out hxy)⟩
    case measure=>simp[intOf];omega
  ·obtain rfl:k=n:=by omega
   have hM:=hid (zth (R:=R) (x:=x) (fun j h=>hno.out j (by have:=HN.out;omega) h));clear hno hB;go_wp2;go_ret;exact⟨by rw[hM.out];rfl,hF⟩
end
theorem ztj{P:Program}{ops:Array Oper}{o:Oper}{a:Act}{w:World}{K:Act→World→Prop}{Q:Exit→Act→World→Prop}{E:Prop}
  (hg:o.guard=none) (s x:Operand) (t:TypeId) (hop:o.op=Op.call {callee:=Callee.builtin Builtin.append,args:= #[s,x],argTypes:= #[t,t]}) (hty:o.type=t)
  (vs vx v':Value) (w':World) (hs:a.eval s=vs) (hx:a.eval x=vx) (hrun:(Builtin.append_ #[t,t] t #[vs,vx]).run P w= .ok v' w')
  (hK:K (a.put o.dst v') w'):if Region.wanted o (yielded ops a.tmps)=true then Oper.wp P o a w K Q else E:=by
 have hw:Region.wanted o (yielded ops a.tmps)=true:=by simp[Region.wanted,hg]
 rw[if_pos hw]
 subst hty
 unfold Oper.wp
 simp[execOp,hop,resolve,invoke,builtin,hs,hx,hrun,Result.andThen]
 exact hK
theorem ztk{G H:Prop}(f:G→H)(g:G):H:=f g
section
variable{w W:World}{p:Nat}{ad:Option Addr}{cap:Nat}{R A B:List Nat}{b x:Nat}
theorem ztl{i:Nat}(A B:List Nat)(x:Nat)(hi:i=(A.length+1) %(A++x::B).length)(h2:2≤(A++x::B).length):(A++x::B)[i]?=some ((B++A).headD 0):=by
 rw[List.length_append,List.length_cons]at hi h2;cases B with
 |nil=>
  have:i=0:=by rw[hi,List.length_nil,show A.length+(0+1)=A.length+1 by omega,Nat.mod_self]
  subst this;cases A with
  |nil=>simp at h2
  |cons a A=>rfl
 |cons c B=>
  have:i=A.length+1:=by rw[hi,Nat.mod_eq_of_lt (by simp)]
  subst this;rw[List.getElem?_append_right (by omega)];simp
theorem ztm(h:IsG w p ad cap (A++x::B) b)(hn:x∉A)(hl:(A++x::B).length≤1048576):Calls prog 181 #[some p,x] w (zR (.int .i64 ((B++A).headD 0:Nat)) fun w'=>Fr [] w w'):=by
 have d0:=h.st.cell 0;simp only[List.getElem?_toArray,List.getElem?_cons_zero]at d0;have HF:=hid (fun W (hW:IsG W p ad cap (A++x::B) b)=>zti hW hl x);rw[ztf hn]at HF;by_cases h1:(A++x::B).length<2
 ·have e0:(B++A).headD 0=0:=by
   rw[List.length_append,List.length_cons]at h1;have hA:A= [] :=List.length_eq_zero_iff.1 (by omega);have hB:B= [] :=List.length_eq_zero_iff.1 (by omega);rw[hA,hB];rfl
  rw[e0];have b1:decide (((A++x::B).length:Int)<2)=true:=by simp only[decide_eq_true_eq];omega
  have b1':decide ((A++x::B).length<2)=true:=by simp only[decide_eq_true_eq];omega
  generalize(A++x::B).length=n at*;clear h1 h HF e0 hl hn;go_in;go_wp2;go_ret;exact⟨rfl,Fr.refl _ _⟩
 ·have b1:decide (((A++x::B).length:Int)<2)=false:=by simp only[decide_eq_false_iff_not];omega
  have b1':decide ((A++x::B).length<2)=false:=by simp only[decide_eq_false_iff_not];omega
  obtain⟨g,rfl,_,hr⟩:=h.row (by omega);have hlA:A.length+1≤(A++x::B).length:=by rw[List.length_append,List.length_cons];omega
  obtain⟨i,hi⟩:∃i,i=(A.length+1) %(A++x::B).length:=⟨_,rfl⟩;have hil:i<(A++x::B).length:=by rw[hi];exact Nat.mod_lt _ (by omega)
  have hv:=ztl A B x hi (by omega);rw[List.getElem?_eq_getElem hil]at hv;have hv2:=Option.some.inj hv;have HC:=hid (fun V (hV:Fr [] w V)=>(hr.fr hV (by simp)).cell i hil);rw[hv2]at HC;generalize(B++A).headD 0=y at*
  have hm:Int.tmod ((A.length:Int)+1) ((A++x::B).length:Int)=i:=by
   rw[hi];have e1:((A.length:Int)+1)=((A.length+1:Nat):Int):=by omega
   rw[e1,←Int.ofNat_tmod]
  have w1:=i6 ((A.length:Int)+1);have w2:IntKind.i64.wrap (i:Int)=i:=i6 _;have n0:((A++x::B).length:Int)≠0:=by omega
  have n2:(A++x::B).length≠0:=by omega
  have n1:((A++x::B).length:Int)≠-1:=by omega
  have i0:(0:Int)≤i:=by omega
  have i1:(i:Int)<(A++x::B).length:=by omega
  have HST:=hid (fun V (hV:Fr [] w V)=>(show V.cell? ⟨p,0,none⟩=some (.slice (some ⟨g,0,none⟩) (A++x::B).length cap)from(h.fr0 hV).st.cell 0));clear h1 hr hv hv2 hi hil hl hlA hn;generalize A.length=a at*;generalize(A++x::B).length=n at*;go_in;go_wp2_with fail;have hY:=And.intro (HST.out _ (Fr.refl _ _).drew) (HC.out _ (Fr.refl _ _).drew);refine wp_region_held_drew (S:=fun W=>W.cell? ⟨p,0,none⟩=some (.slice (some ⟨g,0,none⟩) n cap)∧W.cell? ⟨g,i,none⟩=some (.int .i64 y)) (by kernel_rfl) (hY) (fun yH=> ?_);refine tkZ 0 ?_;refine tkZ 1 ?_;refine tkZ 2 ?_;refine tkZ 3 ?_;refine tkZ 4 ?_;refine tkZ 5 ?_;refine tkZ 8 ?_;refine tkZ 9 ?_;refine tkZ 10 ?_;refine tkZ 11 ?_;refine tkZ 12 ?_;refine tkC 6 fun K hK=> ?_;go_simp;go_call HF.out _ (h.fr0 (Fr.refl _ _).drew) as e w1 ⟨rfl,f1⟩;have F1:=hid ((Fr.refl [] w).drew.trans f1);have hY:=And.intro (HST.out _ F1.out) (HC.out _ F1.out);clear f1;go_wp2_with fail;refine hK.out _ _ _ hY fun yH=> ?_;clear hK K;refine tkZ 7 ?_;refine tkZ 13 ?_;refine tkZ 14 ?_;refine tkZ 15 ?_;refine tkZ 16 ?_;refine wpAnyH_done (by kernel_rfl) ?_ _;go_wp2;go_ret;exact⟨rfl,F1.out⟩
theorem ztn(A B:List Nat)(x:Nat):cutL (A++x::B) A.length=A++B:=by
 unfold cutL;rw[List.take_left,show A.length+1=A.length+1 from rfl,List.drop_append];simp
theorem zto{w:World}{L:List Nat}{g cap k:Nat}(hr:RowI w g cap L)(hk:k<L.length)(hl:L.length≤1048576):∃v1 w1 v2 w2,(Builtin.append_ #[69,69] 69 #[.slice (some ⟨w.heap.size,0,none⟩) 0 0,.slice (some ⟨g,0,none⟩) k cap]).run prog (w.alloc (.cells #[] 3)).drew= .ok v1 w1
   ∧(Builtin.append_ #[69,69] 69 #[v1,.slice (if cap-(k+1)=0 then some ⟨g,0,none⟩else some ⟨g,k+1,none⟩) (L.length-(k+1)) (cap-(k+1))]).run prog w1= .ok v2 w2
   ∧w2.ownsRow w.heap.size 3 1 v2 (cutL L k).length (intC (cutL L k))∧Fr [] w w2∧Fr [] w w1:=by
 have hO0:(w.alloc (.cells #[] 3)).drew.ownsRow w.heap.size 3 1 (.slice (some ⟨w.heap.size,0,none⟩) 0 0) ([] :List Nat).length (intC []):=zj2 w
 have f0:Fr [] w (w.alloc (.cells #[] 3)).drew:=((Fr.refl [] w).alloc _).drew
 have hl1:(L.take k).length=k:=by rw[List.length_take];omega
 have hl2:(L.drop (k+1)).length=L.length-(k+1):=List.length_drop
 have hcap:=hr.le
 obtain⟨v1,w1,e1,hO1,g1⟩:=zj1 _ _ _ [] hO0 (some ⟨g,0,none⟩) cap (L.take k) (fun j hj=>by
  rw[hl1]at hj
  refine⟨g,0,rfl,?_⟩
  have:=(hr.fr f0 (by simp)).cell j (by omega)
  rw[Nat.zero_add,this,List.getElem_take]) (by rw[hl1];simp;omega) f0.size
 rw[hl1]at e1
 rw[List.nil_append]at hO1
 have f1:Fr [] w w1:=zj3 hO0 g1 f0 (Nat.le_refl _)
 obtain⟨v2,w2,e2,hO2,g2⟩:=zj1 w1 w.heap.size v1 (L.take k) hO1 (if cap-(k+1)=0 then some ⟨g,0,none⟩else some ⟨g,k+1,none⟩) (cap-(k+1)) (L.drop (k+1)) (fun j hj=>by
  rw[hl2]at hj
  refine⟨g,k+1,by rw[if_neg (by omega)],?_⟩
  have:=(hr.fr f1 (by simp)).cell (k+1+j) (by omega)
  rw[this,List.getElem_drop]) (by rw[hl1,hl2];omega) f1.size
 rw[hl2]at e2
 exact⟨v1,w1,v2,w2,e1,e2,hO2,zj3 hO1 g2 f1 (Nat.le_refl _),f1⟩
def IsGy(n:Nat)(W:World)(p:Nat)(R:List Nat)(b:Nat):Prop:= ∃ad cap,IsG W p ad cap R b∧(0<R.length→ ∀g o,ad=some ⟨g,o,none⟩→n≤g)
theorem IsGy.lo{n m:Nat}(h:IsGy n W p R b)(hm:m≤n):IsGy m W p R b:=by
 obtain⟨ad,cap,h,k⟩:=h;exact⟨ad,cap,h,fun h0 g o e=>Nat.le_trans hm (k h0 g o e)⟩
theorem ztp{v:Value}{l:List Nat}{base:Nat}(hst:Blk W p 71 #[.slice ad x cap,b])(hv:Rw W base v l)(hb:p+1≤base):IsGy base (W.setCell ⟨p,0,none⟩ v) p l b:=by
 obtain⟨ad',cap',rfl,hr⟩:=zbj hv;have hf:Fr [p] W (W.setCell ⟨p,0,none⟩ (.slice ad' l.length cap')):=(Fr.refl [p] W).setCell (p:=⟨p,0,none⟩) (.inl (by simp)) _;refine⟨ad',cap',⟨by simpa using hst.set 0 (.slice ad' l.length cap'),fun h0=> ?_⟩,fun h0 g o e=> ?_⟩
 ·obtain⟨g,e,hg,hr⟩:=hr h0
  exact⟨g,e,by omega,hr.fr hf (by simp;omega)⟩
 ·obtain⟨g',e',hg,hr⟩:=hr h0
  rw[e]at e';injection e' with e';injection e' with e1 e2;omega
theorem ztq(h:IsG w p ad cap (A++x::B) b)(hn:(A++x::B).Nodup)(hl:(A++x::B).length≤1048576):Calls prog 86 #[some p,x] w (zR (0:Int) fun w'=>IsGy w.heap.size w' p (A++B) (remB A B b x)∧Fr [p] w w'):=by
 have hA:x∉A:=fun m=>(List.nodup_append.1 hn).2.2 x m x (List.mem_cons_self ..) rfl;have HF:=hid (zti h hl x);rw[ztf hA]at HF;have HX:=hid (fun V (hV:IsG V p ad cap (A++x::B) b)=>ztm hV hA hl);obtain⟨g,rfl,_,hr⟩:=h.row (by rw[List.length_append,List.length_cons];omega);have hkn:A.length<(A++x::B).length:=by rw[List.length_append,List.length_cons];omega
 have hcap:=hr.le;have d0:=h.st.cell 0;have d1:=h.st.cell 1;simp only[gE]at d0 d1;go_in;go_wp2_with fail;go_call HF.out as e w3 ⟨rfl,f3⟩;have HI3:=h.fr0 f3;have hB3:=(h.fr0 f3).st;have hr3:=hr.fr f3 (by simp);have k0:decide ((A.length:Int)<0)=false:=by simp only[decide_eq_false_iff_not];omega
 have d1:=hB3.cell 1;simp only[gE]at d1;clear HF d0;by_cases hbx:b=x
 ·subst hbx
  have hX:=HX.out _ HI3;have e1:remB A B b b=(B++A).headD 0:=if_pos rfl;generalize(B++A).headD 0=y at hX e1;have EB:=hid e1;clear e1 HX;go_wp2_with fail;go_call hX as e w4 ⟨rfl,f4⟩;have hB4:=hB3.fr f4 (by simp);have hr4:=hr3.fr f4 (by simp);have F4:=f3.trans f4;have c1:=hB4.cell 1;have z1:=hB4.frozen 1;simp only[gE]at c1;clear f4 hX d1 hB3 hr3;go_upto_region 6 with fail;have hBV:Blk (w4.setCell ⟨p,1,none⟩ (.int .i64 y)) p 71 #[.slice (some ⟨g,0,none⟩) (A++b::B).length cap,.int .i64 y] :=by simpa using hB4.set 1 (.int .i64 y)
  have FV:Fr [p] w4 (w4.setCell ⟨p,1,none⟩ (.int .i64 y)):=(Fr.refl [p] w4).setCell (p:=⟨p,1,none⟩) (.inl (by simp)) _;have hrV:RowI (w4.setCell ⟨p,1,none⟩ (.int .i64 y)) g cap (A++b::B):=hr4.fr FV (by simp;omega);have F5:=(F4.nil (S:= [p])).trans FV;generalize w4.setCell ⟨p,1,none⟩ (.int .i64 y)=V at*;clear hB4 hr4 F4 FV z1 c1 HI3;obtain⟨v1,w1,v2,w2,E1,E2,O2,fc,fc1⟩:=zto hrV (k:=A.length) hkn hl;rw[ztn]at O2;obtain⟨ad2,cap2,rfl,hrow2⟩:=zbj O2;have HE1:=hid E1;have HE2:=hid E2;have d0:=hBV.cell 0;simp only[List.getElem?_toArray,List.getElem?_cons_zero]at d0;have hY0:V.drew.cell? ⟨p,0,none⟩=some (.slice (some ⟨g,0,none⟩) (A++b::B).length cap):=(hBV.fr (Fr.refl [] V).drew (by simp)).cell 0;have hY1:(V.alloc (.cells #[] 3)).drew.cell? ⟨p,0,none⟩=some (.slice (some ⟨g,0,none⟩) (A++b::B).length cap):=(hBV.fr ((Fr.refl [] V).alloc (.cells #[] 3)).drew (by simp)).cell 0;have hY2:w1.cell? ⟨p,0,none⟩=some (.slice (some ⟨g,0,none⟩) (A++b::B).length cap):=(hBV.fr fc1 (by simp)).cell 0;have hb2:=hBV.fr fc (by simp);have hY3:w2.cell? ⟨p,0,none⟩=some (.slice (some ⟨g,0,none⟩) (A++b::B).length cap):=hb2.cell 0;have hz:=hb2.frozen 0;have FC:=show Fr [p] w w2 from F5.trans fc.nil;have hV:=hBV.lt;have IS:=(ztp hb2 O2 (by omega)).lo F5.size;clear E1 E2 O2 hrV hBV fc fc1 hrow2;generalize(A++B).length=n2 at*;generalize hc2:(if cap-(A.length+1)=0 then(some ⟨g,0,none⟩:Option Addr)else some ⟨g,A.length+1,none⟩)=adx at*
  have hc3:(if cap=A.length+1 then(some ⟨g,0,none⟩:Option Addr)else some ⟨g,A.length+1,none⟩)=adx:=by
   rw[←hc2];by_cases e:cap=A.length+1
   ·rw[if_pos e,if_pos (by omega)]
   ·rw[if_neg e,if_neg (by omega)]
  clear h hr hn;generalize A.length=k at*;generalize(A++b::B).length=n at*;have u0:(0:Int)≤k:=by omega
  have u1:(k:Int)≤cap:=by omega
  have u3:(k:Int)+1≤n:=by omega
  have u5:=i6 ((k:Int)+1);have u6:(0:Int)≤(k:Int)+1:=by omega
  have u8:((k:Int)+1).toNat=k+1:=by omega
  apply ztk;case f=>(intro key;go_region_law (first|(refine ztj rfl (.tmp 24) (.tmp 30) 69 rfl rfl _ _ _ _ (by simp[Act.eval,Act.put]) (by simp[Act.eval,Act.put]) HE1.out ?_)|(refine ztj rfl (.tmp 31) (.tmp 38) 69 rfl rfl _ _ _ _ (by simp[Act.eval,Act.put]) (by simp[Act.eval,Act.put,hc3]) HE2.out ?_));all_goals exact key)
  go_wp2;go_ret;exact⟨rfl,by rw[EB.out];exact IS,FC.setCell (p:=⟨p,0,none⟩) (.inl (by simp)) _⟩
 ·have b1:((b:Int)==x)=false:=by simp;omega
  have EB:=hid (show remB A B b x=b from if_neg hbx);clear HX;have hrV:=hr3;have hBV:=hB3;obtain⟨v1,w1,v2,w2,E1,E2,O2,fc,fc1⟩:=zto hrV (k:=A.length) hkn hl;rw[ztn]at O2;obtain⟨ad2,cap2,rfl,hrow2⟩:=zbj O2;have HE1:=hid E1;have HE2:=hid E2;have d0:=hBV.cell 0;simp only[List.getElem?_toArray,List.getElem?_cons_zero]at d0;have hY0:w3.drew.cell? ⟨p,0,none⟩=some (.slice (some ⟨g,0,none⟩) (A++x::B).length cap):=(hBV.fr (Fr.refl [] w3).drew (by simp)).cell 0;have hY1:(w3.alloc (.cells #[] 3)).drew.cell? ⟨p,0,none⟩=some (.slice (some ⟨g,0,none⟩) (A++x::B).length cap):=(hBV.fr ((Fr.refl [] w3).alloc (.cells #[] 3)).drew (by simp)).cell 0;have hY2:w1.cell? ⟨p,0,none⟩=some (.slice (some ⟨g,0,none⟩) (A++x::B).length cap):=(hBV.fr fc1 (by simp)).cell 0;have hb2:=hBV.fr fc (by simp);have hY3:w2.cell? ⟨p,0,none⟩=some (.slice (some ⟨g,0,none⟩) (A++x::B).length cap):=hb2.cell 0;have hz:=hb2.frozen 0;have FC:=show Fr [p] w w2 from(f3.nil (S:= [p])).trans fc.nil;have hV:=hBV.lt;have IS:=(ztp hb2 O2 (by omega)).lo f3.size;clear E1 E2 O2 hrV hBV fc fc1 hrow2;generalize(A++B).length=n2 at*;generalize hc2:(if cap-(A.length+1)=0 then(some ⟨g,0,none⟩:Option Addr)else some ⟨g,A.length+1,none⟩)=adx at*
  have hc3:(if cap=A.length+1 then(some ⟨g,0,none⟩:Option Addr)else some ⟨g,A.length+1,none⟩)=adx:=by
   rw[←hc2];by_cases e:cap=A.length+1
   ·rw[if_pos e,if_pos (by omega)]
   ·rw[if_neg e,if_neg (by omega)]
  clear h hr hn;generalize A.length=k at*;generalize(A++x::B).length=n at*;have u0:(0:Int)≤k:=by omega
  have u1:(k:Int)≤cap:=by omega
  have u3:(k:Int)+1≤n:=by omega
  have u5:=i6 ((k:Int)+1);have u6:(0:Int)≤(k:Int)+1:=by omega
  have u8:((k:Int)+1).toNat=k+1:=by omega
  go_wp2_with fail;apply ztk;case f=>(intro key;go_region_law (first|(refine ztj rfl (.tmp 24) (.tmp 30) 69 rfl rfl _ _ _ _ (by simp[Act.eval,Act.put]) (by simp[Act.eval,Act.put]) HE1.out ?_)|(refine ztj rfl (.tmp 31) (.tmp 38) 69 rfl rfl _ _ _ _ (by simp[Act.eval,Act.put]) (by simp[Act.eval,Act.put,hc3]) HE2.out ?_));all_goals exact key)
  go_wp2;go_ret;exact⟨rfl,by rw[EB.out];exact IS,FC.setCell (p:=⟨p,0,none⟩) (.inl (by simp)) _⟩
end
theorem ztr{P:Program}{w:World}{ops:Array Oper}{rest:List Oper}{o:Oper}{a:Act}{Q:Exit→Act→World→Prop}(hgd:o.guard=none)(s x:Operand)(t:TypeId)(ho:o.op= .call {callee:= .builtin .append,args:= #[s,x],argTypes:= #[t,t]})(hty:o.type=t)
  (vs vx v':Value) (w':World) (hs:a.eval s=vs) (hx:a.eval x=vx) (hrun:(Builtin.append_ #[t,t] t #[vs,vx]).run P w= .ok v' w') (h:wpList P ops Q rest (a.put o.dst v') w'):wpList P ops Q (o::rest) a w:=by
 refine wpList_plain hgd fun K hK=> ?_;have hK':=hK _ _ h;subst hty;unfold Oper.wp execOp;simp only[ho,resolve,invoke,builtin,Sem.run_bind,Sem.run_pure,Result.andThen_ok,List.map_toArray,List.map_cons,List.map_nil,hs,hx,hrun];exact hK'
theorem zts{w:World}{l:List Nat}{base cap:Nat}{ad:Option Addr}(hr:RowV w base ad cap l)(hl:l.length≤1048576):∃v1 w1,(Builtin.append_ #[69,69] 69 #[.slice (some ⟨w.heap.size,0,none⟩) 0 0,.slice ad l.length cap]).run prog (w.alloc (.cells #[] 3))= .ok v1 w1∧Rw w1 w.heap.size v1 l∧Fr [] w w1:=by
 have hO0:(w.alloc (.cells #[] 3)).ownsRow w.heap.size 3 1 (.slice (some ⟨w.heap.size,0,none⟩) 0 0) ([] :List Nat).length (intC []):=zj2 w;have f0:Fr [] w (w.alloc (.cells #[] 3)):=(Fr.refl [] w).alloc _
 obtain⟨v1,w1,e1,hO1,g1⟩:=zj1 _ _ _ [] hO0 ad cap l (fun j hj=>by
  obtain⟨g,e,_,hr⟩:=hr (by omega);exact⟨g,0,e,by rw[Nat.zero_add];exact(hr.fr f0 (by simp)).cell j hj⟩) (by simp;omega) f0.size
 rw[List.nil_append]at hO1;exact⟨v1,w1,e1,hO1,zj3 hO0 g1 f0 (Nat.le_refl _)⟩
section
variable{w W:World}{p:Nat}{ad:Option Addr}{cap:Nat}{R:List Nat}{b x:Nat}
theorem ztt(h:IsG w p ad cap R b)(hl:R.length≤1048500)(hx:x∉R):Calls prog 128 #[some p,x] w (zR (0:Int) fun w'=>IsGy w.heap.size w' p (R++ [x]) (insB R b x)∧Fr [p] w w'):=by
 have HF:=hid (zti h (by omega) x);rw[zte hx]at HF;obtain⟨nR,hnR⟩:∃n,R.length=n:=⟨_,rfl⟩;by_cases h0:R= []
 ·have EB:=hid (show insB R b x=x from if_pos h0)
  have hn0:nR=0:=by rw[←hnR,h0];rfl
  go_in;go_wp2_with fail;go_call HF.out as e w3 ⟨rfl,f3⟩;have hB3:=(h.fr0 f3).st;rw[hnR]at hB3;have hr3:=(h.fr0 f3).row;have d0:=hB3.cell 0;have d1:=hB3.cell 1;have z1:=hB3.frozen 1;simp only[gE]at d0 d1;have b1:((nR:Int)==0)=true:=by rw[hn0];rfl
  have b1':(nR==0)=true:=by rw[hn0];rfl
  clear HF;go_upto_region 5 with fail;have hBV:Blk (w3.setCell ⟨p,1,none⟩ (.int .i64 x)) p 71 #[.slice ad nR cap,.int .i64 x] :=by simpa using hB3.set 1 (.int .i64 x)
  have fV:Fr [p] w3 (w3.setCell ⟨p,1,none⟩ (.int .i64 x)):=(Fr.refl [p] w3).setCell (p:=⟨p,1,none⟩) (.inl (by simp)) (.int .i64 x);have F5:=(f3.nil (S:= [p])).trans fV;have hrV:=hr3.fr fV (by simp);generalize w3.setCell ⟨p,1,none⟩ (.int .i64 x)=V at*;clear hB3 hr3 d0 d1 z1 b1 b1' f3 hn0 h0 fV h;obtain⟨v1,w1,E1,O1,fc⟩:=zts hrV (by omega);rw[hnR]at E1;obtain⟨ad1,cap1,e1,hrow1⟩:=zbj O1;rw[hnR]at e1;subst e1;have HE1:=hid E1;have d0:=hBV.cell 0;have dA:=(hBV.alloc (.cells #[] 3)).cell 0;simp only[List.getElem?_toArray,List.getElem?_cons_zero]at d0 dA;have hs:V.heap.size≤w1.heap.size:=fc.size;have hpV:=hBV.lt;have ISG:=fun(W:World) (v:Value) (hb:Blk W p 71 #[.slice ad nR cap,x]) (hv:Rw W V.heap.size v (R++ [x]))=>(ztp hb hv (by omega)).lo F5.size;clear E1 hrow1 hrV;go_wp2_with (first|(at_builtin;refine ztr rfl _ _ 69 rfl rfl _ _ _ _ rfl rfl HE1.out ?_)|(at_builtin;refine zhy rfl _ _ rfl rfl V.heap.size _ R rfl x w1 rfl O1 rfl (by omega) hs ?_;intro g1 q1 W1 hO1 hF1 hob1;have hm1:∀g∈ownS (.slice ad1 nR cap1),V.heap.size≤g:=fun g hg=>(O1.lt g (zhv hg)).1;have FW:=hid (F5.trans ((fc.nil (S:= [p])).step hF1 (fun g hg=> .inr (hm1 g hg))));have hB1:=(hBV.fr fc (by simp)).fr hF1 (fun hm=>by have:=hm1 _ hm;omega);have c0:=hB1.cell 0;have hz:=hB1.frozen 0;have IS:=hid (ISG _ _ hB1 hO1);have HN2:=hid hnR;simp only[List.getElem?_toArray,List.getElem?_cons_zero]at c0;clear hO1 hF1 hob1)|fail);go_ret;exact⟨rfl,by rw[EB.out];have h1:=IS.out;rw[HN2.out]at h1;exact h1,FW.setCell (p:=⟨p,0,none⟩) (.inl (by simp)) _⟩
 ·have EB:=hid (show insB R b x=b from if_neg h0)
  have hn0:nR≠0:=fun e=>h0 (List.length_eq_zero_iff.1 (hnR.trans e));go_in;go_wp2_with fail;go_call HF.out as e w3 ⟨rfl,f3⟩;have hBV:=(h.fr0 f3).st;rw[hnR]at hBV;have hrV:=(h.fr0 f3).row;have b1:((nR:Int)==0)=false:=by rw[beq_eq_false_iff_ne];omega
  have b1':(nR==0)=false:=by rw[beq_eq_false_iff_ne];omega
  have F5:=f3.nil (S:= [p]);clear f3 HF hn0 h0 h;obtain⟨v1,w1,E1,O1,fc⟩:=zts hrV (by omega);rw[hnR]at E1;obtain⟨ad1,cap1,e1,hrow1⟩:=zbj O1;rw[hnR]at e1;subst e1;have HE1:=hid E1;have d0:=hBV.cell 0;have dA:=(hBV.alloc (.cells #[] 3)).cell 0;simp only[List.getElem?_toArray,List.getElem?_cons_zero]at d0 dA;have hs:w3.heap.size≤w1.heap.size:=fc.size;have hpV:=hBV.lt;have ISG:=fun(W:World) (v:Value) (hb:Blk W p 71 #[.slice ad nR cap,b]) (hv:Rw W w3.heap.size v (R++ [x]))=>(ztp hb hv (by omega)).lo F5.size;clear E1 hrow1 hrV;go_wp2_with (first|(at_builtin;refine ztr rfl _ _ 69 rfl rfl _ _ _ _ rfl rfl HE1.out ?_)|(at_builtin;refine zhy rfl _ _ rfl rfl w3.heap.size _ R rfl x w1 rfl O1 rfl (by omega) hs ?_;intro g1 q1 W1 hO1 hF1 hob1;have hm1:∀g∈ownS (.slice ad1 nR cap1),w3.heap.size≤g:=fun g hg=>(O1.lt g (zhv hg)).1;have FW:=hid (F5.trans ((fc.nil (S:= [p])).step hF1 (fun g hg=> .inr (hm1 g hg))));have hB1:=(hBV.fr fc (by simp)).fr hF1 (fun hm=>by have:=hm1 _ hm;omega);have c0:=hB1.cell 0;have hz:=hB1.frozen 0;have IS:=hid (ISG _ _ hB1 hO1);have HN2:=hid hnR;simp only[List.getElem?_toArray,List.getElem?_cons_zero]at c0;clear hO1 hF1 hob1)|fail);go_ret;exact⟨rfl,by rw[EB.out];have h1:=IS.out;rw[HN2.out]at h1;exact h1,FW.setCell (p:=⟨p,0,none⟩) (.inl (by simp)) _⟩
end
theorem ztu(w:World)(hM:TabM w)(a s:Nat)(hc:Cfg a s)(i:Nat)(hi:i<s):Calls prog 77 #[.agg #[a,s],i] w (zN (.int .i64 (zdu a+4*i:Nat)) w):=by
 obtain⟨c1,c2,c3,c4,c5⟩:=hc;have hc:Cfg a s:=⟨c1,c2,c3,c4,c5⟩;have hr:∀W,TabM W→Calls prog 69 #[.agg #[a,s]] W (zN true W):=fun W h=>zdt W h a s hc;have hs:∀W,Calls prog 164 #[.agg #[a,s]] W (zN (zdu a) W):=fun W=>zdz W a s hc
 have hl:∀W,TabM W→Calls prog 163 #[.agg #[a,s],i,s,(zdu a),(4:Int)] W (zN (.int .i64 (zdu a+4*i:Nat)) W):=fun W h=>by
  have:=zhe W h a s hc i s (zdu a) 4 hi (by unfold zdu;omega);refine this.mono fun e w' ⟨he,hf⟩=>⟨?_,hf⟩;rw[he];rw[show((zdu a+4*i:Nat):Int)=((zdu a:Nat):Int)+(i:Int)*((4:Nat):Int)by omega]
 have HM:=fun V (hV:Fr [] w V)=>hM.fr hV (by simp);have B0:=Blk.new w 62 #[.int .i64 a,.int .i64 s];have F0:=(Fr.refl [] w).alloc;have HS:=hid hs;have HL:=hid hl;have DC:=hid (fun V (hV:Fr [] (w.alloc (.cells #[a,s] 62)) V)=>And.intro (show V.cell? ⟨w.heap.size,0,none⟩=some (.int .i64 a)from(B0.fr hV (by simp)).cell 0) (show V.cell? ⟨w.heap.size,1,none⟩=some (.int .i64 s)from(B0.fr hV (by simp)).cell 1));generalize zdu a=z at*;generalize(z+4*i:Nat)=r at*;clear hM c1 c2 c3 c4 c5 hc hs hl;go_in;go_wp2_with fail;go_call hr _ (HM _ (F0 _)) as e w1 ⟨rfl,f1⟩;have hY:=DC.out _ f1.drew;go_wp2_with fail;refine wp_region_held_drew (S:=fun W=>W.cell? ⟨w.heap.size,0,none⟩=some (.int .i64 a)∧W.cell? ⟨w.heap.size,1,none⟩=some (.int .i64 s)) (by kernel_rfl) (hY) (fun yH=> ?_);refine tkZ 0 ?_;refine tkZ 1 ?_;refine tkZ 2 ?_;refine tkZ 3 ?_;refine tkZ 4 ?_;refine tkC 5 fun K hK=> ?_;go_simp;go_call HS.out _ as e w2 ⟨rfl,f2⟩;have F2:=f1.drew.trans f2;have hY:=DC.out _ F2;clear f2;go_wp2_with fail;refine hK.out _ _ _ hY fun yH=> ?_;clear hK K;refine tkC 6 fun K hK=> ?_;go_simp;go_call HL.out _ (HM _ ((F0 _).trans F2)) as e w3 ⟨rfl,f3⟩;have F3:=F2.trans f3;have hY:=DC.out _ F3;clear f3;go_wp2_with fail;refine hK.out _ _ _ hY fun yH=> ?_;clear hK K;refine tkZ 7 ?_;refine wpAnyH_done (by kernel_rfl) ?_ _;try simp only[gP,List.getElem_cons_zero]
 go_wp2;go_ret;exact⟨rfl,(F0 _).trans F3⟩
section
variable{w:World}{q:MH}{t:TM}
def tbV(m n:Nat):Value:= .agg #[some m,n]
theorem iof(h:IsT w q t):Calls prog 75 #[q] w (zN (tbV q.m t.s) w):=by
 have HC:=hid (fun W (hW:IsT W q t)=>tcfg hW);have hfd:∀w,(Instr.field 62 (.agg #[t.a,t.s]) 1).run prog w= .ok (.int .i64 t.s) w:=fun w=>by kernel_rfl
 have H0:=h.alloc;have F0:=(Fr.refl [] w).alloc;have B0:=Blk.new w 141 #[.pointer none,.int .i64 0];unfold tbV;generalize t.s=s at*;generalize t.a=a at*;clear h;go_in;go_wp2_with fail;go_call HC.out _ (H0 _) as e w1 ⟨rfl,f1⟩;have hB:=B0.fr f1 (by simp);have d0:=hB.cell 0;have d1:=hB.cell 1;have z0:=hB.frozen 0;have z1:=hB.frozen 1;simp only[gE]at d0 d1;have hb1:=hB.set 0 (.pointer (some ⟨q.m,0,none⟩));have hb2:=hb1.set 1 (.int .i64 s);have q0:=hb1.cell 0;have q1:=hb2.cell 0;have q2:=hb2.cell 1;simp at q0 q1 q2;have F1:=(((F0 _).trans f1).setCell (p:=⟨w.heap.size,0,none⟩) (.inr (Nat.le_refl _)) (.pointer (some ⟨q.m,0,none⟩))).setCell (p:=⟨w.heap.size,1,none⟩) (.inr (Nat.le_refl _)) (.int .i64 s);clear f1 hB hb1 hb2;go_wp2_with fail;refine bodyPost_ret (by simp[results,results75,go_sem,q1,q2];try rfl) rfl ⟨rfl,F1⟩
theorem ztv(w:World)(m n i:Nat)(hn:0<n)(hi:i≤1048576):Calls prog 267 #[tbV m n,i] w (zN (.int .i64 (i %n:Nat)) w):=by
 have h1:Int.tmod (i:Int) (n:Int)=(i %n:Nat):=by rw[Int.ofNat_tmod]
 have h2:IntKind.i64.wrap ((i %n:Nat):Int)=(i %n:Nat):=i64_in _ (by have:=Nat.mod_le i n;omega);have h4:n≠0:=by omega
 generalize i %n=r at*;unfold tbV;go_in;go_wp2;go_ret;exact⟨rfl,(Fr.refl _ _).alloc _⟩
theorem ztw(w:World)(x n:Nat)(hx:x<4294967296)(hn:0<n)(hn2:n≤1048576):Calls prog 283 #[.int .u32 x,n] w (zN (.int .i64 (x %n:Nat)) w):=by
 have h1:Int.tmod (x:Int) (n:Int)=(x %n:Nat):=by rw[Int.ofNat_tmod]
 have hm:x %n<n:=Nat.mod_lt _ hn;have h2:IntKind.i64.wrap ((x %n:Nat):Int)=(x %n:Nat):=i6 _;have h2':IntKind.u64.wrap ((x %n:Nat):Int)=(x %n:Nat):=IntWalk.u64_in _ (by omega);have h5:IntKind.u64.wrap (x:Int)=x:=IntWalk.u64_in _ (by omega);have h6:IntKind.u64.wrap (n:Int)=n:=IntWalk.u64_in _ (by omega);have h4:n≠0:=by omega
 have b1:=dF ((n:Int)<1);have b2:=dF (n<1);generalize x %n=r at*;go_in;go_wp2;go_ret;exact⟨rfl,Fr.refl _ _⟩
theorem iget(h:IsT w q t)(i:Nat)(hi:i≤1048576)(hs:0<t.s):Calls prog 177 #[tbV q.m t.s,.int .i64 i] w (zR (.int .i64 (t.sl (i %t.s))) fun w'=>IsT w' q t∧Fr q.blocks w w'):=by
 have hm:i %t.s<t.s:=Nat.mod_lt _ hs;have ha:=zgq h.ok (i %t.s) hm;have hv:=ha.lt;have HC:=hid (fun W (hW:IsT W q t)=>tcfg hW);have HR:=hid (fun W=>(show Calls prog 267 #[.agg #[.pointer (some ⟨q.m,0,none⟩),.int .i64 t.s],.int .i64 i] W (zN (.int .i64 (i %t.s:Nat)) W)from ztv W q.m t.s i hs hi));have HS:=hid (fun W (hW:IsT W q t)=>(show Calls prog 77 #[.agg #[.int .i64 t.a,.int .i64 t.s],.int .i64 (i %t.s:Nat)] W (zR (.int .i64 (slAt t (i %t.s))) fun w'=>Fr [] W w')from ztu W hW.tab t.a t.s hW.ok.cfg _ hm));have HL:=hid (fun W (hW:IsT W q t)=>(show Calls prog 109 #[.pointer (some ⟨q.m,0,none⟩),.int .i64 (slAt t (i %t.s)),.int .i64 4,.int .i64 4] W (zR (.int .u64 (t.sl (i %t.s))) fun w'=>IsT w' q t∧Fr q.blocks W w')from zgu hW ha));have H0:=h.alloc (.cells #[.pointer (some ⟨q.m,0,none⟩),.int .i64 t.s] 141);have F0:=((Fr.refl [] w).alloc (.cells #[.pointer (some ⟨q.m,0,none⟩),.int .i64 t.s] 141)).nil (S:=q.blocks);have B0:=Blk.new w 141 #[.pointer (some ⟨q.m,0,none⟩),.int .i64 t.s];have hlt:=h.lt;have nb:w.heap.size∉q.blocks:=fun hm=>by have:=hlt _ hm;omega
 have hw:IntKind.i64.wrap (t.sl (i %t.s):Int)=t.sl (i %t.s):=i64_in _ (by have:(256:Nat)^4=4294967296:=rfl;omega);have DC:=hid (fun V (hV:Fr q.blocks (w.alloc (.cells #[.pointer (some ⟨q.m,0,none⟩),.int .i64 t.s] 141)) V)=>And.intro (show V.cell? ⟨w.heap.size,0,none⟩=some (.pointer (some ⟨q.m,0,none⟩))from(B0.fr hV nb).cell 0) (show V.cell? ⟨w.heap.size,1,none⟩=some (.int .i64 t.s)from(B0.fr hV nb).cell 1));unfold tbV;generalize t.sl (i %t.s)=v at*;generalize slAt t (i %t.s)=z at*;generalize i %t.s=r at*;generalize t.s=s at*;generalize t.a=a at*;clear h ha hv hlt hm hs;have H0d:=H0.drew;have hY:=DC.out _ (Fr.refl _ _).drew;go_in;go_wp2_with fail;refine wp_region_held_drew (S:=fun W=>W.cell? ⟨w.heap.size,0,none⟩=some (.pointer (some ⟨q.m,0,none⟩))∧W.cell? ⟨w.heap.size,1,none⟩=some (.int .i64 s)) (by kernel_rfl) (hY) (fun yH=> ?_);refine tkZ 0 ?_;refine tkZ 1 ?_;refine tkZ 2 ?_;refine tkZ 3 ?_;refine tkZ 5 ?_;refine tkZ 6 ?_;refine tkC 4 fun K hK=> ?_;go_simp;with_reducible refine(HC.out _ H0d).mono ?_
 rintro e w1 ⟨rfl,f1⟩;have H1:=H0d.fr0 f1;have F1:=(Fr.refl q.blocks _).drew.trans f1.nil;have hY:=DC.out _ F1;clear f1;go_wp2_with fail;refine hK.out _ _ _ hY fun yH=> ?_;clear hK K;refine tkC 7 fun K hK=> ?_;go_simp;with_reducible refine(HR.out _).mono ?_
 rintro e w2 ⟨rfl,f2⟩;have H2:=H1.fr0 f2;have F2:=F1.trans f2.nil;have hY:=DC.out _ F2;clear f2;go_wp2_with fail;refine hK.out _ _ _ hY fun yH=> ?_;clear hK K;refine tkC 8 fun K hK=> ?_;go_simp;with_reducible refine(HS.out _ H2).mono ?_
 rintro e w3 ⟨rfl,f3⟩;have H3:=H2.fr0 f3;have F3:=F2.trans f3.nil;have hY:=DC.out _ F3;clear f3;go_wp2_with fail;refine hK.out _ _ _ hY fun yH=> ?_;clear hK K;refine tkC 9 fun K hK=> ?_;go_simp;with_reducible refine(HL.out _ H3).mono ?_
 rintro e w4 ⟨rfl,h4,f4⟩;have F4:=F3.trans f4;have hY:=DC.out _ F4;clear f4;go_wp2_with fail;refine hK.out _ _ _ hY fun yH=> ?_;clear hK K;refine tkZ 10 ?_;refine tkZ 11 ?_;refine wpAnyH_done (by kernel_rfl) ?_ _;try simp only[gP,List.getElem_cons_zero]
 go_wp2;go_ret;exact⟨rfl,h4,F0.trans F4⟩
theorem iput(h:IsT w q t)(i x:Nat)(hi:i≤1048576)(hs:0<t.s)(hx:x<4294967296):Calls prog 179 #[tbV q.m t.s,.int .i64 i,.int .i64 x] w (zR (.tuple #[]) fun w'=>IsT w' q (t.setSl (i %t.s) x)∧Fr q.blocks w w'):=by
 have hm:i %t.s<t.s:=Nat.mod_lt _ hs;have ha:=zgq h.ok (i %t.s) hm;have hv:=ha.lt;have HC:=hid (fun W (hW:IsT W q t)=>tcfg hW);have HR:=hid (fun W=>(show Calls prog 267 #[.agg #[.pointer (some ⟨q.m,0,none⟩),.int .i64 t.s],.int .i64 i] W (zN (.int .i64 (i %t.s:Nat)) W)from ztv W q.m t.s i hs hi));have HS:=hid (fun W (hW:IsT W q t)=>(show Calls prog 77 #[.agg #[.int .i64 t.a,.int .i64 t.s],.int .i64 (i %t.s:Nat)] W (zR (.int .i64 (slAt t (i %t.s))) fun w'=>Fr [] W w')from ztu W hW.tab t.a t.s hW.ok.cfg _ hm));have HL:=hid (fun W (hW:IsT W q t)=>(show Calls prog 165 #[.pointer (some ⟨q.m,0,none⟩),.int .i64 (slAt t (i %t.s)),.int .i64 4,.int .i64 4,.int .u64 x] W (zR (.bool true) fun w'=>IsT w' q (t.setSl (i %t.s) x)∧Fr q.blocks W w')from zgv hW ha hx (zgs hW.ok _ _ hx) (zgt hW.ok _ _ hm hx)));have H0:=h.alloc (.cells #[.pointer (some ⟨q.m,0,none⟩),.int .i64 t.s] 141);have F0:=((Fr.refl [] w).alloc (.cells #[.pointer (some ⟨q.m,0,none⟩),.int .i64 t.s] 141)).nil (S:=q.blocks);have B0:=Blk.new w 141 #[.pointer (some ⟨q.m,0,none⟩),.int .i64 t.s];have hlt:=h.lt;have nb:w.heap.size∉q.blocks:=fun hm=>by have:=hlt _ hm;omega
 have hw:IntKind.u64.wrap (x:Int)=x:=IntWalk.u64_in _ (by omega);have DC:=hid (fun V (hV:Fr q.blocks (w.alloc (.cells #[.pointer (some ⟨q.m,0,none⟩),.int .i64 t.s] 141)) V)=>And.intro (show V.cell? ⟨w.heap.size,0,none⟩=some (.pointer (some ⟨q.m,0,none⟩))from(B0.fr hV nb).cell 0) (show V.cell? ⟨w.heap.size,1,none⟩=some (.int .i64 t.s)from(B0.fr hV nb).cell 1));unfold tbV;generalize hU:t.setSl (i %t.s) x=U at*;generalize slAt t (i %t.s)=z at*;generalize i %t.s=r at*;generalize t.s=s at*;generalize t.a=a at*;clear h ha hv hlt hm hs hU;have H0d:=H0.drew;have hY:=DC.out _ (Fr.refl _ _).drew;go_in;go_wp2_with fail;refine wp_region_held_drew (S:=fun W=>W.cell? ⟨w.heap.size,0,none⟩=some (.pointer (some ⟨q.m,0,none⟩))∧W.cell? ⟨w.heap.size,1,none⟩=some (.int .i64 s)) (by kernel_rfl) (hY) (fun yH=> ?_);refine tkZ 0 ?_;refine tkZ 1 ?_;refine tkZ 2 ?_;refine tkZ 3 ?_;refine tkZ 5 ?_;refine tkZ 6 ?_;refine tkZ 9 ?_;refine tkZ 10 ?_;refine tkC 4 fun K hK=> ?_;go_simp;with_reducible refine(HC.out _ H0d).mono ?_
 rintro e w1 ⟨rfl,f1⟩;have H1:=H0d.fr0 f1;have F1:=(Fr.refl q.blocks _).drew.trans f1.nil;have hY:=DC.out _ F1;clear f1;go_wp2_with fail;refine hK.out _ _ _ hY fun yH=> ?_;clear hK K;refine tkC 7 fun K hK=> ?_;go_simp;with_reducible refine(HR.out _).mono ?_
 rintro e w2 ⟨rfl,f2⟩;have H2:=H1.fr0 f2;have F2:=F1.trans f2.nil;have hY:=DC.out _ F2;clear f2;go_wp2_with fail;refine hK.out _ _ _ hY fun yH=> ?_;clear hK K;refine tkC 8 fun K hK=> ?_;go_simp;with_reducible refine(HS.out _ H2).mono ?_
 rintro e w3 ⟨rfl,f3⟩;have H3:=H2.fr0 f3;have F3:=F2.trans f3.nil;have hY:=DC.out _ F3;clear f3;go_wp2_with fail;refine hK.out _ _ _ hY fun yH=> ?_;clear hK K;refine tkC 11 fun K hK=> ?_;go_simp;with_reducible refine(HL.out _ H3).mono ?_
 rintro e w4 ⟨rfl,h4,f4⟩;have F4:=F3.trans f4;have hY:=DC.out _ F4;clear f4;go_wp2_with fail;refine hK.out _ _ _ hY fun yH=> ?_;clear hK K;refine wpAnyH_done (by kernel_rfl) ?_ _;try simp only[gP,List.getElem_cons_zero]
 go_wp2;go_end0;exact⟨rfl,h4,F0.trans F4⟩
end
structure BlkE(t:TM)(x:Nat)(X:HB):Prop where
 h:HeadTo t x X.tag.toNat 5 X.num 12
 ok:X.Ok
 r:X.right=true
 tg:X.tag=1∨X.tag=2
section
variable{w:World}{q:MH}{t:TM}{x:Nat}{X:HB}
theorem BlkE.n0(h:BlkE t x X):X.num 0=X.tag.toNat:=by
 show X.nums[0]?.getD 0=_;unfold HB.nums;rcases h.tg with e|e<;>rw[e] <;>rfl
theorem BlkE.lies(h:BlkE t x X):Lies X.tag.toNat 5 X.num:= .inl ⟨rfl,h.n0⟩
theorem BlkE.hash(h:BlkE t x X):hvN X.tag.toNat X.num 10=X.hash:=by
 unfold hvN;rcases h.tg with e|e<;>rw[e,if_neg (by decide)] <;>rfl
theorem BlkE.pos(h:BlkE t x X)(hok:t.Ok):240≤x∧x<1048576:=by
 have h1:=h.h.base;have h2:=h.h.fit;have hc:=zge hok.cfg;obtain⟨_,c2,c3,c4,_⟩:=hok.cfg;have hs:=zlt X.tag.toNat (by rcases h.tg with e|e<;>rw[e] <;>decide)
 have:zdw t.a t.s≤1048576:=by
  have:=(zmd hok 0 (by omega)).2.2.2.2;exact this
 omega
theorem ztx(h:IsH w q t)(n:Nat)(hx:BlkE t x X):Calls prog 265 #[tbV q.m n,x] w (zR (.int .u32 X.hash) fun w'=>IsH w' q t∧Fr q.blocks w w'):=by
 have HL:=hid (fun W (hW:IsH W q t)=>(show Calls prog 230 #[q,x,(10:Int)] W (zR (.int .u64 X.hash) fun w'=>IsH w' q t∧Fr q.blocks W w')from by
  have:=zl2 hW hx.h hx.lies 10;rw[hx.hash]at this;exact this))
 have hh:=hx.ok.hash;have hw:IntKind.u32.wrap (X.hash:Int)=X.hash:=IntWalk.u32_in _ (by omega);have H0:=h.alloc;have F0:=((Fr.refl [] w).alloc (.cells #[q,n] 141)).nil (S:=q.blocks);unfold tbV;generalize X.hash=v at*;clear h hx hh;go_in;go_wp2_with fail;go_call HL.out _ (H0 _) as e w1 ⟨rfl,h1,f1⟩;have F1:=F0.trans f1;clear f1;go_wp2;go_ret;exact⟨rfl,h1,F1⟩
theorem zty(h:IsH w q t)(hs:0<t.s)(hs2:t.s≤1048576)(hx:BlkE t x X):Calls prog 213 #[tbV q.m t.s,x] w (zR (.int .i64 (X.hash %t.s:Nat)) fun w'=>IsH w' q t∧Fr q.blocks w w'):=by
 have HH:=hid (fun W (hW:IsH W q t)=>(show Calls prog 265 #[.agg #[q,t.s],x] W (zR (.int .u32 X.hash) fun w'=>IsH w' q t∧Fr q.blocks W w')from ztx hW t.s hx));have HM:=hid (fun W=>ztw W X.hash t.s hx.ok.hash hs hs2);have H0:=(h.alloc (.cells #[q,t.s] 141)).drew;have F0:=((Fr.refl [] w).alloc (.cells #[q,t.s] 141)).nil (S:=q.blocks);have B0:=Blk.new w 141 #[.pointer (some ⟨q.m,0,none⟩),.int .i64 t.s];have hlt:=h.m.lt;have nb:w.heap.size∉q.blocks:=fun hm=>by have:=hlt _ hm;omega
 have DC:=hid (fun V (hV:Fr q.blocks (w.alloc (.cells #[q,t.s] 141)) V)=>And.intro (show V.cell? ⟨w.heap.size,0,none⟩=some (.pointer (some ⟨q.m,0,none⟩))from(B0.fr hV nb).cell 0) (show V.cell? ⟨w.heap.size,1,none⟩=some (.int .i64 t.s)from(B0.fr hV nb).cell 1));unfold tbV;generalize X.hash %t.s=v at*;generalize X.hash=hs0 at*;generalize t.s=s at*;clear h hx hlt hs hs2;have hY:=DC.out _ (Fr.refl _ _).drew;go_in;go_wp2_with fail;refine wp_region_held_drew (S:=fun W=>W.cell? ⟨w.heap.size,0,none⟩=some (.pointer (some ⟨q.m,0,none⟩))∧W.cell? ⟨w.heap.size,1,none⟩=some (.int .i64 s)) (by kernel_rfl) (hY) (fun yH=> ?_);refine tkZ 0 ?_;refine tkZ 1 ?_;refine tkZ 3 ?_;refine tkZ 4 ?_;refine tkC 2 fun K hK=> ?_;go_simp;go_call HH.out _ H0 as e w1 ⟨rfl,h1,f1⟩;have F1:=(Fr.refl q.blocks _).drew.trans f1;have hY:=DC.out _ F1;clear f1;go_wp2_with fail;refine hK.out _ _ _ hY fun yH=> ?_;clear hK K;refine tkC 5 fun K hK=> ?_;go_simp;go_call HM.out _ as e w2 ⟨rfl,f2⟩;have H2:=h1.fr0 f2;have F2:=F1.trans f2.nil;have hY:=DC.out _ F2;clear f2;go_wp2_with fail;refine hK.out _ _ _ hY fun yH=> ?_;clear hK K;refine tkZ 6 ?_;refine wpAnyH_done (by kernel_rfl) ?_ _;try simp only[gP,List.getElem_cons_zero]
 go_wp2;go_ret;exact⟨rfl,H2,F0.trans F2⟩
end
def farT(T H:Nat→Nat)(n i:Nat):Nat:=if i %n<H (T (i %n))then i %n+n-H (T (i %n))else i %n-H (T (i %n))
structure IxI(t:TM)(L:Nat→Prop)(E:Nat→HB):Prop where
 e: ∀x,L x→BlkE t x (E x)
 sl: ∀i,i<t.s→t.sl i=0∨L (t.sl i)
 s0:0<t.s
 s1:t.s≤32768
def hmE(t:TM)(E:Nat→HB)(x:Nat):Nat:=(E x).hash %t.s
section
variable{w:World}{q:MH}{t:TM}{L:Nat→Prop}{E:Nat→HB}
theorem ifar(h:IsH w q t)(g:IxI t L E)(i:Nat)(hi:i≤1048576)(h0:t.sl (i %t.s)≠0):Calls prog 178 #[tbV q.m t.s,i] w (zR (.int .i64 (farT t.sl (hmE t E) t.s i)) fun w'=>IsH w' q t∧Fr q.blocks w w'):=by
 have hs:=g.s0;have hs1:=g.s1;have hr:i %t.s<t.s:=Nat.mod_lt _ hs;have hrr:i %t.s %t.s=i %t.s:=Nat.mod_eq_of_lt hr;have hL:=(g.sl _ hr).resolve_left h0;have HR:=hid (fun W=>(show Calls prog 267 #[.agg #[q,t.s],i] W (zN (.int .i64 (i %t.s:Nat)) W)from ztv W q.m t.s i hs hi))
 have HG:=hid (fun W (hW:IsH W q t)=>(show Calls prog 177 #[.agg #[q,t.s],.int .i64 (i %t.s:Nat)] W (zR (.int .i64 (t.sl (i %t.s))) fun w'=>IsH w' q t∧Fr q.blocks W w')from by
  have:=iget hW.m (i %t.s) (by omega) hs;rw[hrr]at this;exact this.mono fun e w' ⟨he,k1,k2⟩=>⟨he,hW.step k1 k2,k2⟩))
 have HH:=hid (fun W (hW:IsH W q t)=>(show Calls prog 213 #[.agg #[q,t.s],.int .i64 (t.sl (i %t.s))] W (zR (.int .i64 (hmE t E (t.sl (i %t.s)):Nat)) fun w'=>IsH w' q t∧Fr q.blocks W w')from zty hW hs (by omega) (g.e _ hL)));have hml:hmE t E (t.sl (i %t.s))<t.s:=Nat.mod_lt _ hs;have H0:=h.alloc;have F0:=((Fr.refl [] w).alloc (.cells #[q,t.s] 141)).nil (S:=q.blocks);have B0:=Blk.new w 141 #[.pointer (some ⟨q.m,0,none⟩),.int .i64 t.s];have hlt:=h.m.lt;have nb:w.heap.size∉q.blocks:=fun hm=>by have:=hlt _ hm;omega
 have DC:=hid (fun V (hV:Fr q.blocks (w.alloc (.cells #[q,t.s] 141)) V)=>And.intro (show V.cell? ⟨w.heap.size,0,none⟩=some (.pointer (some ⟨q.m,0,none⟩))from(B0.fr hV nb).cell 0) (show V.cell? ⟨w.heap.size,1,none⟩=some (.int .i64 t.s)from(B0.fr hV nb).cell 1));unfold tbV farT;generalize hmE t E (t.sl (i %t.s))=hm at*;generalize t.sl (i %t.s)=v at*;generalize i %t.s=r at*;generalize t.s=s at*;clear h hL hlt hs g hrr;go_in;go_wp2_with fail;go_call HR.out _ as e w1 ⟨rfl,f1⟩;have H1:=(H0 _).fr0 f1;have F1:=f1.nil (S:=q.blocks);have H1d:=H1.fr0 (Fr.refl [] w1).drew;have hY:=DC.out _ F1.drew;clear f1;go_wp2_with fail;refine wp_region_held_drew (S:=fun W=>W.cell? ⟨w.heap.size,0,none⟩=some (.pointer (some ⟨q.m,0,none⟩))∧W.cell? ⟨w.heap.size,1,none⟩=some (.int .i64 s)) (by kernel_rfl) (hY) (fun yH=> ?_);refine tkZ 0 ?_;refine tkZ 1 ?_;refine tkZ 2 ?_;refine tkC 3 fun K hK=> ?_;go_simp;go_call HG.out _ H1d as e w2 ⟨rfl,h2,f2⟩;have F2:=F1.drew.trans f2;have hY:=DC.out _ F2;clear f2;go_wp2_with fail;refine hK.out _ _ _ hY fun yH=> ?_;clear hK K;refine tkC 4 fun K hK=> ?_;go_simp;go_call HH.out _ h2 as e w3 ⟨rfl,h3,f3⟩;have F3:=F2.trans f3;have hY:=DC.out _ F3;clear f3;go_wp2_with fail;refine hK.out _ _ _ hY fun yH=> ?_;clear hK K;refine tkZ 5 ?_;refine wpAnyH_done (by kernel_rfl) ?_ _;try simp only[gP,List.getElem_cons_zero]
 by_cases hlt:r<hm
 ·have b1':=dT (r<hm)
  have w1:=i6 ((r:Int)+s);have w2:IntKind.i64.wrap ((r:Int)+s-hm)=(r+s-hm:Nat):=by rw[i6 _];omega
  go_wp2;go_ret;exact⟨by first|rfl|(rw[if_pos hlt];rfl)|(rw[if_pos hlt]),h3,F0.trans F3⟩
 ·have b1':=dF (r<hm)
  have w2:IntKind.i64.wrap ((r:Int)-hm)=(r-hm:Nat):=by rw[i6 _];omega
  go_wp2;go_ret;exact⟨by first|rfl|(rw[if_neg hlt];rfl)|(rw[if_neg hlt]),h3,F0.trans F3⟩
end
def endB(T H:Nat→Nat)(n i k:Nat):Bool:=if T (i %n)=0 then true else decide (farT T H n i<k)
section
variable{w:World}{q:MH}{t:TM}{x:Nat}{X:HB}{L:Nat→Prop}{E:Nat→HB}
theorem ztz(h:IsH w q t)(g:IxI t L E)(i k:Nat)(hi:i≤1048576):Calls prog 215 #[tbV q.m t.s,i,k] w (zR (.bool (endB t.sl (hmE t E) t.s i k)) fun w'=>IsH w' q t∧Fr q.blocks w w'):=by
 have HG:=hid (fun W (hW:IsH W q t)=>(show Calls prog 177 #[.agg #[q,t.s],i] W (zR (.int .i64 (t.sl (i %t.s))) fun w'=>IsH w' q t∧Fr q.blocks W w')from
  (iget hW.m i hi g.s0).mono fun e w' ⟨he,k1,k2⟩=>⟨he,hW.step k1 k2,k2⟩))
 have HF:=hid (fun W (hW:IsH W q t) (h0:t.sl (i %t.s)≠0)=>(show Calls prog 178 #[.agg #[q,t.s],i] W (zR (.int .i64 (farT t.sl (hmE t E) t.s i)) fun w'=>IsH w' q t∧Fr q.blocks W w')from ifar hW g i hi h0));have H0:=h.alloc;have F0:=((Fr.refl [] w).alloc (.cells #[q,t.s] 141)).nil (S:=q.blocks);have B0:=Blk.new w 141 #[.pointer (some ⟨q.m,0,none⟩),.int .i64 t.s];have hlt:=h.m.lt;have nb:w.heap.size∉q.blocks:=fun hm=>by have:=hlt _ hm;omega
 unfold tbV endB;generalize farT t.sl (hmE t E) t.s i=f at*;generalize t.sl (i %t.s)=v at*;generalize t.s=s at*;clear h hlt g;by_cases hv:v=0
 ·subst hv
  go_in;go_wp2_with fail;go_call HG.out _ (H0 _) as e w1 ⟨rfl,h1,f1⟩;have F1:=F0.trans f1;clear f1 HF;go_wp2;go_ret;exact⟨by first|rfl|(rw[if_pos rfl];rfl),h1,F1⟩
 ·have b0:((v:Int)==0)=false:=by rw[beq_eq_false_iff_ne];omega
  have b0':(v==0)=false:=by rw[beq_eq_false_iff_ne];omega
  have HF:=hid (fun W hW=>HF.out W hW hv);obtain⟨c,hc⟩:∃c:Bool,decide (f<k)=c:=⟨_,rfl⟩;have hc':decide ((f:Int)<k)=c:=by rw[←hc];exact decide_eq_decide.2 (by omega)
  have HR:=hid (show(if v=0 then true else decide (f<k))=c from by rw[if_neg hv,hc]);go_in;go_wp2_with fail;go_call HG.out _ (H0 _) as e w1 ⟨rfl,h1,f1⟩;have F1:=F0.trans f1;have hb:=B0.fr f1 nb;have d0:=hb.cell 0;have d1:=hb.cell 1;simp only[gE]at d0 d1;clear f1 hb;go_wp2_with fail;go_call HF.out _ h1 as e w2 ⟨rfl,h2,f2⟩;have F2:=F1.trans f2;clear f2;rcases c with _|_
  all_goals
   go_wp2;go_ret;exact⟨by first|(rw[HR.out];rfl)|(rw[HR.out])|rfl,h2,F2⟩
def gapS(T:Nat→Nat)(n a:Nat):Nat→Nat→Option Nat
 |0,_=>none
 |f+1,k=>if T ((a+k) %n)=0 then some k else gapS T n a f (k+1)
def gapT(T:Nat→Nat)(n a:Nat):Option Nat:=gapS T n a n 0
def optZ:Option Nat→Int
 |none=> -1
 |some i=>i
theorem igap(h:IsH w q t)(g:IxI t L E)(a:Nat)(ha:a≤131072):Calls prog 214 #[tbV q.m t.s,a] w (zR (.int .i64 (optZ (gapT t.sl t.s a))) fun w'=>IsH w' q t∧Fr q.blocks w w'):=by
 have hs1:=g.s1
 have HG:=hid (fun W k (hk:k<t.s) (hW:IsH W q t)=>(show Calls prog 177 #[.agg #[q,t.s],.int .i64 (a+k:Nat)] W (zR (.int .i64 (t.sl ((a+k) %t.s))) fun w'=>IsH w' q t∧Fr q.blocks W w')from
  (iget hW.m (a+k) (by omega) g.s0).mono fun e w' ⟨he,k1,k2⟩=>⟨he,hW.step k1 k2,k2⟩))
 have H0:=h.alloc (.cells #[q,t.s] 141);have F0:=((Fr.refl [] w).alloc (.cells #[q,t.s] 141)).nil (S:=q.blocks);have B0:=Blk.new w 141 #[.pointer (some ⟨q.m,0,none⟩),.int .i64 t.s];have hlt:=h.m.lt;have nb:w.heap.size∉q.blocks:=fun hm=>by have:=hlt _ hm;omega
 have DC:=hid (fun V (hV:Fr q.blocks (w.alloc (.cells #[q,t.s] 141)) V)=>And.intro (show V.cell? ⟨w.heap.size,0,none⟩=some (.pointer (some ⟨q.m,0,none⟩))from(B0.fr hV nb).cell 0) (show V.cell? ⟨w.heap.size,1,none⟩=some (.int .i64 t.s)from(B0.fr hV nb).cell 1));obtain⟨R,hR⟩:∃R,gapT t.sl t.s a=R:=⟨_,rfl⟩;rw[hR];have HR:=hid (show gapS t.sl t.s a (t.s-0) 0=R from hR)
 have HUN:=hid (show∀k,k<t.s→gapS t.sl t.s a (t.s-k) k=if t.sl ((a+k) %t.s)=0 then some k else gapS t.sl t.s a (t.s-(k+1)) (k+1)from fun k hk=>by
  rw[show t.s-k=(t.s-(k+1))+1 by omega,gapS])
 have HZ:=hid (show gapS t.sl t.s a (t.s-t.s) t.s=none from by rw[Nat.sub_self];rfl);have HQ:=hid (show∀k,(gapS t.sl t.s a (t.s-k) k=R)=(gapS t.sl t.s a (t.s-k) k=R)from fun _=>rfl);generalize hsl:t.sl=T at*;generalize t.s=s at*;unfold tbV;clear h hlt g hR hsl;go_in;go_wp2;go_loopw [8] (fun v W=>∃k:Nat,k≤s∧v= .int .i64 k∧Hid (gapS T s a (s-k) k=R)∧Hid (IsH W q t)∧Hid (Fr q.blocks (w.alloc (.cells #[q,s] 141)) W)) (fun v _=>s-(intOf v).toNat);case atStart=>exact⟨0,by omega,rfl,HR,H0,hid (Fr.refl _ _)⟩
 case round=>
  clear HR;obtain⟨k,hk,rfl,hR,hI,hF⟩:=hrel;have d0:=(DC.out _ hF.out).1;have d1:=(DC.out _ hF.out).2;by_cases hlt:k<s
  ·have b1':=dT (k<s)
   have w1:IntKind.i64.wrap ((a:Int)+k)=(a+k:Nat):=by rw[i6 _];omega
   have w3:=i6 ((k:Int)+1);have hg:=HG.out _ k hlt hI.out;have hu:=HUN.out k hlt;rw[hR.out]at hu;generalize T ((a+k) %s)=v at*;generalize a+k=ak at*;have HU:=hid hu;clear hu;go_wp2_with fail;go_call hg as e w1 ⟨rfl,h1,f1⟩;have F1:=hF.trans f1;clear f1 hg;by_cases hv:v=0
   ·subst hv
    have hRR:=HU.out;rw[if_pos rfl]at hRR;have HRR:=hid (show(k:Int)=optZ R from by rw[hRR];rfl);clear hRR HU;go_wp2;go_ret;exact⟨by rw[←HRR.out];rfl,h1,F0.trans F1⟩
   ·have b2:((v:Int)==0)=false:=by rw[beq_eq_false_iff_ne];omega
    have b2':(v==0)=false:=by rw[beq_eq_false_iff_ne];omega
    have HN:=hid (show gapS T s a (s-(k+1)) (k+1)=R from by have:=HU.out;rw[if_neg hv]at this;exact this.symm);go_wp2;go_roundw;case rel=>exact⟨k+1,by omega,by go_num,HN,h1,F1⟩
    case measure=>simp[intOf];omega
  ·obtain rfl:k=s:=by omega
   have HRR:=hid (show(-1:Int)=optZ R from by have:=hR.out;rw[HZ.out]at this;rw[←this];rfl);clear hlt;go_wp2;go_ret;exact⟨by rw[←HRR.out];rfl,hI.out,F0.trans hF.out⟩
theorem zt0(h:IsH w q t)(n:Nat)(hn:0<n)(hx:BlkE t x X):Calls prog 175 #[tbV q.m n,x] w (zR (0:Int) fun w'=>IsH w' q t∧Fr q.blocks w w'):=by
 have HG:=hid (fun W (hW:IsH W q t)=>(show Calls prog 138 #[q,x] W (zR (.tuple #[.agg #[X.tag,X.cls,X.used,X.label,.int .u32 X.name,.int .u32 X.next,.int .u32 X.prev,.int .u32 X.refs,.int .u64 X.expiry,.int .u16 X.typ,X.size,.int .u32 X.hash],(0:Int)]) fun w'=>IsH w' q t∧Fr q.blocks W w')from
  hget W q t hW x X.tag.toNat 5 X hx.h hx.ok hx.r (by rcases hx.tg with e|e<;>rw[e] <;>rfl) hx.lies (.inl rfl)))
 have htg:(X.tag==0)=false:=by rcases hx.tg with e|e<;>rw[e] <;>rfl
 have b0:((n:Int)==0)=false:=by rw[beq_eq_false_iff_ne];omega
 have b0':(n==0)=false:=by rw[beq_eq_false_iff_ne];omega
 have H0:=h.alloc;have F0:=((Fr.refl [] w).alloc (.cells #[q,n] 141)).nil (S:=q.blocks);unfold tbV;obtain⟨tag,cls,used,label,name,next,prev,refs,expiry,typ,size,hash⟩:=X;simp only at htg HG;clear h hx;go_in;go_wp2_with fail;go_call HG.out _ (H0 _) as e w1 ⟨rfl,h1,f1⟩;have F1:=F0.trans f1;clear f1 HG;go_wp2;go_ret;exact⟨rfl,h1.alloc _,F1.alloc _⟩
theorem ione(w:World)(x y:Nat):Calls prog 266 #[x,y] w (zE (.bool (y==x)) w):=by
 obtain⟨c,hc⟩:∃c:Bool,(y==x)=c:=⟨_,rfl⟩
 have hc':((y:Int)==x)=c:=by
  rw[←hc,Bool.eq_iff_iff,beq_iff_eq,beq_iff_eq];omega
 have HR:=hid hc;go_in;go_wp2;go_ret;exact⟨by first|(rw[HR.out];rfl)|rfl,rfl⟩
end
def fndS(T H:Nat→Nat)(n h:Nat)(P:Nat→Bool):Nat→Nat→Option Nat
 |0,_=>none
 |f+1,k=>if endB T H n (h+k) k=true then none else if P (T ((h+k) %n))=true then some ((h+k) %n)else fndS T H n h P f (k+1)
def fndT(T H:Nat→Nat)(n h:Nat)(P:Nat→Bool):Option Nat:=fndS T H n h P n 0
section
variable{w:World}{q:MH}{t:TM}{L:Nat→Prop}{E:Nat→HB}
theorem zt1(h:IsH w q t)(g:IxI t L E)(y hs:Nat)(hh:hs<4294967296):Calls prog 253 #[.agg #[q,t.s],.agg #[.int .u32 hs,.func (.func 266) #[.int .i64 y] #[]]] w (zR (.int .i64 (optZ (fndT t.sl (hmE t E) t.s (hs %t.s) (fun z=>z==y)))) fun w'=>IsH w' q t∧Fr q.blocks w w'):=by
 have b0:((t.s:Int)==0)=false:=by have:=g.s0;rw[beq_eq_false_iff_ne];omega
 have b0':(t.s==0)=false:=by have:=g.s0;rw[beq_eq_false_iff_ne];omega
 have hs1:=g.s1;have hml:hs %t.s<t.s:=Nat.mod_lt _ g.s0;have HM:=hid (fun W=>ztw W hs t.s hh g.s0 (by have:=g.s1;omega));have HE:=hid (fun W k (hk:k<t.s) (hW:IsH W q t)=>(show Calls prog 215 #[.agg #[q,t.s],.int .i64 (hs %t.s+k:Nat),k] W (zR (.bool (endB t.sl (hmE t E) t.s (hs %t.s+k) k)) fun w'=>IsH w' q t∧Fr q.blocks W w')from ztz hW g (hs %t.s+k) k (by omega)))
 have HG:=hid (fun W k (hk:k<t.s) (hW:IsH W q t)=>(show Calls prog 177 #[.agg #[q,t.s],.int .i64 (hs %t.s+k:Nat)] W (zR (.int .i64 (t.sl ((hs %t.s+k) %t.s))) fun w'=>IsH w' q t∧Fr q.blocks W w')from
  (iget hW.m _ (by omega) g.s0).mono fun e w' ⟨he,k1,k2⟩=>⟨he,hW.step k1 k2,k2⟩))
 have HO:=hid (fun W k (hk:k<t.s)=>(show Calls prog 267 #[.agg #[q,t.s],.int .i64 (hs %t.s+k:Nat)] W (zR (.int .i64 ((hs %t.s+k) %t.s:Nat)) fun w'=>Fr [] W w')from ztv W q.m t.s _ g.s0 (by omega)));have HIS:=hid (fun W z=>ione W y z);have H0:=(h.alloc (.cells #[q,t.s] 141)).alloc (.cells #[.int .u32 hs,.func (.func 266) #[.int .i64 y] #[]] 208);have F0:=((Fr.refl q.blocks w).alloc (.cells #[q,t.s] 141)).alloc (.cells #[.int .u32 hs,.func (.func 266) #[.int .i64 y] #[]] 208);have B0:=(Blk.new w 141 #[.pointer (some ⟨q.m,0,none⟩),.int .i64 t.s]).alloc (.cells #[.int .u32 hs,.func (.func 266) #[.int .i64 y] #[]] 208);have hb1:=Blk.new (w.alloc (.cells #[q,t.s] 141)) 208 #[.int .u32 hs,.func (.func 266) #[.int .i64 y] #[]];rw[World.size_alloc]at hb1;have hlt:=h.m.lt;have nb:w.heap.size∉q.blocks:=fun hm=>by have:=hlt _ hm;omega
 have nb1:w.heap.size+1∉q.blocks:=fun hm=>by have:=hlt _ hm;omega
 obtain⟨W0,hW0⟩:∃W0,(w.alloc (.cells #[q,t.s] 141)).alloc (.cells #[.int .u32 hs,.func (.func 266) #[.int .i64 y] #[]] 208)=W0:=⟨_,rfl⟩;have HW0:=hid hW0;rw[hW0]at H0 F0 B0 hb1;have DC:=hid (fun V (hV:Fr q.blocks W0 V)=>And.intro (show V.cell? ⟨w.heap.size,0,none⟩=some (.pointer (some ⟨q.m,0,none⟩))from(B0.fr hV nb).cell 0) (And.intro (show V.cell? ⟨w.heap.size,1,none⟩=some (.int .i64 t.s)from(B0.fr hV nb).cell 1) (And.intro (show V.cell? ⟨w.heap.size+1,0,none⟩=some (.int .u32 hs)from(hb1.fr hV nb1).cell 0) (show V.cell? ⟨w.heap.size+1,1,none⟩=some (.func (.func 266) #[.int .i64 y] #[])from(hb1.fr hV nb1).cell 1))));obtain⟨R,hR⟩:∃R,fndT t.sl (hmE t E) t.s (hs %t.s) (fun z=>z==y)=R:=⟨_,rfl⟩;rw[hR];have HR:=hid (show fndS t.sl (hmE t E) t.s (hs %t.s) (fun z=>z==y) (t.s-0) 0=R from hR)
 have HUN:=hid (show∀k,k<t.s→fndS t.sl (hmE t E) t.s (hs %t.s) (fun z=>z==y) (t.s-k) k=if endB t.sl (hmE t E) t.s (hs %t.s+k) k=true then none else if(t.sl ((hs %t.s+k) %t.s)==y)=true then some ((hs %t.s+k) %t.s)else fndS t.sl (hmE t E) t.s (hs %t.s) (fun z=>z==y) (t.s-(k+1)) (k+1)from fun k hk=>by
  rw[show t.s-k=(t.s-(k+1))+1 by omega,fndS])
 have HZ:=hid (show fndS t.sl (hmE t E) t.s (hs %t.s) (fun z=>z==y) (t.s-t.s) t.s=none from by rw[Nat.sub_self];rfl);generalize hF9:fndS t.sl (hmE t E) t.s (hs %t.s) (fun z=>z==y)=FS at*;generalize hsl:t.sl=T at*;generalize hmE t E=H at*;generalize hsz:t.s=s at*;generalize hs %s=hm at*;clear h hlt g hR hsl hF9 hh;go_in;go_wp2_with fail;try rw[hW0]
 clear hsz hW0;have d1:=(DC.out _ (Fr.refl _ _)).2.1;have d2:=(DC.out _ (Fr.refl _ _)).2.2.1;refine wp_scope_jumps 0 (fun a' w'=>∃(k:Nat) (u7 u8 u9 u10 u11 u12 u13 u14 u15 u16 u17 u18 u19 u20 u21 u22 u23 u24 u25 u26 u27 u28 u29 u30 u31 u32 u33 u34 u35 u36 u37 u38 u39 u40 u41:Value),a'={tmps:= #[.agg #[q,s],.agg #[.int .u32 hs,.func (.func 266) #[.int .i64 y] #[]],.pointer (some ⟨w.heap.size,0,none⟩),.pointer (some ⟨w.heap.size+1,0,none⟩),.int .i64 0,.int .i64 hm,.int .i64 k,u7,u8,u9,u10,u11,u12,u13,u14,u15,u16,u17,u18,u19,u20,u21,u22,u23,u24,u25,u26,u27,u28,u29,u30,u31,u32,u33,u34,u35,u36,u37,u38,u39,u40,u41],defers:= []}∧k≤s∧Hid (FS (s-k) k=R)∧Hid (IsH w' q t)∧Hid (Fr q.blocks W0 w')) (fun a' _=>s-(intOf (a'.tmps.getD 6 undef)).toNat) rfl ?_ ?_
 ·go_wp2_with fail
  go_call HM.out _ as e w1 ⟨rfl,f1⟩;have hI:=hid (H0.fr0 f1);have hF:=hid (f1.nil (S:=q.blocks));have d0:=(DC.out _ hF.out).1;have d1:=(DC.out _ hF.out).2.1;have hlt:0<s:=by omega
  have b1:((0:Int)==s)=false:=by rw[beq_eq_false_iff_ne];omega
  have b1':(0==s)=false:=by rw[beq_eq_false_iff_ne];omega
  have wq1:IntKind.i64.wrap (hm:Int)=hm:=i6 _;have he:=(show Calls prog 215 #[.agg #[q,s],hm,(0:Int)] w1 (zR (.bool (endB T H s hm 0)) fun w'=>IsH w' q t∧Fr q.blocks w1 w')from HE.out w1 0 hlt hI.out);have hg:=hid (fun W hW=>(show Calls prog 177 #[.agg #[q,s],hm] W (zR (.int .i64 (T (hm %s))) fun w'=>IsH w' q t∧Fr q.blocks W w')from HG.out W 0 hlt hW));have ho:=hid (fun W=>(show Calls prog 267 #[.agg #[q,s],hm] W (zN (.int .i64 (hm %s:Nat)) W)from HO.out W 0 hlt));have hu:=HUN.out 0 hlt;rw[HR.out]at hu;simp only[Nat.add_zero]at hu;clear f1 HM;generalize endB T H s hm 0=ev at*;generalize T (hm %s)=v at*;generalize hm %s=rk at*;have HU:=hid hu;clear hu;go_wp2_with fail;go_step3;go_wp2_with fail;go_call he as e w2 ⟨rfl,h2,f2⟩;have F2:=hid (hF.trans f2);clear f2 he;rcases ev with _|_
  ·have H2d:=h2.drew
   have hY:=And.intro (DC.out _ F2.drew).1 (And.intro (DC.out _ F2.drew).2.1 (DC.out _ F2.drew).2.2.2);go_wp2_with fail;refine wp_region_held_drew (S:=fun W=>W.cell? ⟨w.heap.size,0,none⟩=some (.pointer (some ⟨q.m,0,none⟩))∧W.cell? ⟨w.heap.size,1,none⟩=some (.int .i64 s)∧W.cell? ⟨w.heap.size+1,1,none⟩=some (.func (.func 266) #[.int .i64 y] #[])) (by kernel_rfl) (hY) (fun yH=> ?_);refine tkZ 0 ?_;refine tkZ 1 ?_;refine tkZ 2 ?_;refine tkZ 3 ?_;refine tkZ 4 ?_;refine tkZ 5 ?_;refine tkC 6 fun K hK=> ?_;go_simp;go_call hg.out _ H2d as e w4 ⟨rfl,h4,f4⟩;have F4:=hid (F2.drew.trans f4);have hY:=And.intro (DC.out _ F4.out).1 (And.intro (DC.out _ F4.out).2.1 (DC.out _ F4.out).2.2.2);clear f4;go_wp2_with fail;refine hK.out _ _ _ hY fun yH=> ?_;clear hK K;refine tkC 7 fun K hK=> ?_;go_simp;go_call HIS.out _ _ as e w5 ⟨rfl,he5⟩;rw[he5];clear he5 w5;have hY:=And.intro (DC.out _ F4.out).1 (And.intro (DC.out _ F4.out).2.1 (DC.out _ F4.out).2.2.2);go_wp2_with fail;refine hK.out _ _ _ hY fun yH=> ?_;clear hK K;refine wpAnyH_done (by kernel_rfl) ?_ _;try simp only[gP,List.getElem_cons_zero]
   obtain⟨c,hc⟩:∃c:Bool,(v==y)=c:=⟨_,rfl⟩;rw[hc];rw[hc]at HU;clear hY;rcases c with _|_
   ·have HN:=hid (show FS (s-1) 1=R from by have:=HU.out;simpa using this.symm)
    go_wp2_with fail;go_step3;refine⟨rfl,1,_,_,_,_,_,_,_,_,_,_,_,_,_,_,_,_,_,_,_,_,_,_,_,_,_,_,_,_,_,_,_,_,_,_,_,by first|rfl|(congr 1;go_num),by omega,HN,h4,F4⟩
   ·have HRR:=hid (show(rk:Int)=optZ R from by have:=HU.out;simp at this;rw[this];rfl)
    go_wp2_with fail;go_call ho.out _ as e w6 ⟨rfl,f6⟩;have H6:=h4.fr0 f6;have F6:=F4.trans f6.nil;clear f6;go_wp2_with fail;try simp only[Exit.jump]
    go_ret;exact⟨by rw[←HRR.out];rfl,H6,F0.trans F6⟩
  ·have HRR:=hid (show(-1:Int)=optZ R from by have:=HU.out;simp at this;rw[this];rfl)
   go_wp2_with fail;try simp only[Exit.jump]
   go_ret;exact⟨by rw[←HRR.out];rfl,h2,F0.trans F2.out⟩
 ·rintro a' w' ⟨k,u7,u8,u9,u10,u11,u12,u13,u14,u15,u16,u17,u18,u19,u20,u21,u22,u23,u24,u25,u26,u27,u28,u29,u30,u31,u32,u33,u34,u35,u36,u37,u38,u39,u40,u41,rfl,hks,hRk,hI,hF⟩
  have d0:=(DC.out _ hF.out).1;have d1:=(DC.out _ hF.out).2.1;by_cases hlt:k<s
  ·have b1:((k:Int)==s)=false:=by rw[beq_eq_false_iff_ne];omega
   have b1':(k==s)=false:=by rw[beq_eq_false_iff_ne];omega
   have w1:IntKind.i64.wrap ((hm:Int)+k)=(hm+k:Nat):=by rw[i6 _];omega
   have w3:=i6 ((k:Int)+1);have he:=HE.out _ k hlt hI.out;have hg:=hid (fun W hW=>HG.out W k hlt hW);have ho:=hid (fun W=>HO.out W k hlt);have hu:=HUN.out k hlt;rw[hRk.out]at hu;generalize hm+k=ak at*;generalize endB T H s ak k=ev at*;generalize T (ak %s)=v at*;generalize ak %s=rk at*;have HU:=hid hu;clear hu;go_wp2_with fail;go_call he as e w2 ⟨rfl,h2,f2⟩;have F2:=hid (hF.trans f2);clear f2 he;rcases ev with _|_
   ·have H2d:=h2.drew
    have hY:=And.intro (DC.out _ F2.drew).1 (And.intro (DC.out _ F2.drew).2.1 (DC.out _ F2.drew).2.2.2);go_wp2_with fail;refine wp_region_held_drew (S:=fun W=>W.cell? ⟨w.heap.size,0,none⟩=some (.pointer (some ⟨q.m,0,none⟩))∧W.cell? ⟨w.heap.size,1,none⟩=some (.int .i64 s)∧W.cell? ⟨w.heap.size+1,1,none⟩=some (.func (.func 266) #[.int .i64 y] #[])) (by kernel_rfl) (hY) (fun yH=> ?_);refine tkZ 0 ?_;refine tkZ 1 ?_;refine tkZ 2 ?_;refine tkZ 3 ?_;refine tkZ 4 ?_;refine tkZ 5 ?_;refine tkC 6 fun K hK=> ?_;go_simp;go_call hg.out _ H2d as e w4 ⟨rfl,h4,f4⟩;have F4:=hid (F2.drew.trans f4);have hY:=And.intro (DC.out _ F4.out).1 (And.intro (DC.out _ F4.out).2.1 (DC.out _ F4.out).2.2.2);clear f4;go_wp2_with fail;refine hK.out _ _ _ hY fun yH=> ?_;clear hK K;refine tkC 7 fun K hK=> ?_;go_simp;go_call HIS.out _ _ as e w5 ⟨rfl,he5⟩;rw[he5];clear he5 w5;have hY:=And.intro (DC.out _ F4.out).1 (And.intro (DC.out _ F4.out).2.1 (DC.out _ F4.out).2.2.2);go_wp2_with fail;refine hK.out _ _ _ hY fun yH=> ?_;clear hK K;refine wpAnyH_done (by kernel_rfl) ?_ _;try simp only[gP,List.getElem_cons_zero]
    obtain⟨c,hc⟩:∃c:Bool,(v==y)=c:=⟨_,rfl⟩;rw[hc];rw[hc]at HU;clear hY;rcases c with _|_
    ·have HN:=hid (show FS (s-(k+1)) (k+1)=R from by have:=HU.out;simpa using this.symm)
     go_wp2_with fail;go_step3;refine⟨rfl,⟨k+1,_,_,_,_,_,_,_,_,_,_,_,_,_,_,_,_,_,_,_,_,_,_,_,_,_,_,_,_,_,_,_,_,_,_,_,by first|rfl|(congr 1;go_num),by omega,HN,h4,F4⟩,by simp[intOf];omega⟩
    ·have HRR:=hid (show(rk:Int)=optZ R from by have:=HU.out;simp at this;rw[this];rfl)
     go_wp2_with fail;go_call ho.out _ as e w6 ⟨rfl,f6⟩;have H6:=h4.fr0 f6;have F6:=F4.trans f6.nil;clear f6;go_wp2_with fail;try simp only[Exit.jump]
     go_ret;exact⟨by rw[←HRR.out];rfl,H6,F0.trans F6⟩
   ·have HRR:=hid (show(-1:Int)=optZ R from by have:=HU.out;simp at this;rw[this];rfl)
    go_wp2_with fail;try simp only[Exit.jump]
    go_ret;exact⟨by rw[←HRR.out];rfl,h2,F0.trans F2.out⟩
  ·obtain rfl:k=s:=by omega
   have HRR:=hid (show(-1:Int)=optZ R from by have:=hRk.out;rw[HZ.out]at this;rw[←this];rfl);go_wp2_with fail;try simp only[Exit.jump]
   go_ret;exact⟨by rw[←HRR.out];rfl,hI.out,F0.trans hF.out⟩
end
def TM.wsl(t:TM)(T:Nat→Nat):TM:={t with sl:=T}
def shS(n to:Nat):Nat→(Nat→Nat)→(Nat→Nat)
 |0,T=>T
 |i+1,T=>shS n to i (up T ((to+(i+1)) %n) (T ((to+i) %n)))
section
variable{w:World}{q:MH}{t:TM}{x:Nat}{X:HB}{L:Nat→Prop}{E:Nat→HB}
theorem zt2(h:IsH w q t)(g:IxI t L E)(hx:BlkE t x X):Calls prog 176 #[tbV q.m t.s,x] w (zR (.int .i64 (optZ (fndT t.sl (hmE t E) t.s (X.hash %t.s) (fun z=>z==x)))) fun w'=>IsH w' q t∧Fr q.blocks w w'):=by
 have HH:=hid (fun W (hW:IsH W q t)=>(show Calls prog 265 #[.agg #[q,t.s],x] W (zR (.int .u32 X.hash) fun w'=>IsH w' q t∧Fr q.blocks W w')from ztx hW t.s hx));have HF:=hid (fun W (hW:IsH W q t)=>zt1 hW g x X.hash hx.ok.hash);have H0:=(h.alloc (.cells #[q,t.s] 141)).drew;have F0:=((Fr.refl [] w).alloc (.cells #[q,t.s] 141)).nil (S:=q.blocks);have B0:=Blk.new w 141 #[.pointer (some ⟨q.m,0,none⟩),.int .i64 t.s];have hlt:=h.m.lt;have nb:w.heap.size∉q.blocks:=fun hm=>by have:=hlt _ hm;omega
 have DC:=hid (fun V (hV:Fr q.blocks (w.alloc (.cells #[q,t.s] 141)) V)=>And.intro (show V.cell? ⟨w.heap.size,0,none⟩=some (.pointer (some ⟨q.m,0,none⟩))from(B0.fr hV nb).cell 0) (show V.cell? ⟨w.heap.size,1,none⟩=some (.int .i64 t.s)from(B0.fr hV nb).cell 1));unfold tbV;generalize fndT t.sl (hmE t E) t.s (X.hash %t.s) (fun z=>z==x)=R at*;generalize X.hash=hs0 at*;generalize t.s=s at*;clear h hx hlt g;have hY:=DC.out _ (Fr.refl _ _).drew;go_in;go_wp2_with fail;refine wp_region_held_drew (S:=fun W=>W.cell? ⟨w.heap.size,0,none⟩=some (.pointer (some ⟨q.m,0,none⟩))∧W.cell? ⟨w.heap.size,1,none⟩=some (.int .i64 s)) (by kernel_rfl) (hY) (fun yH=> ?_);refine tkZ 0 ?_;refine tkZ 1 ?_;refine tkZ 2 ?_;refine tkZ 4 ?_;refine tkZ 5 ?_;refine tkC 3 fun K hK=> ?_;go_simp;go_call HH.out _ H0 as e w1 ⟨rfl,h1,f1⟩;have F1:=(Fr.refl q.blocks _).drew.trans f1;have hY:=DC.out _ F1;clear f1;go_wp2_with fail;refine hK.out _ _ _ hY fun yH=> ?_;clear hK K;refine tkZ 6 ?_;refine tkC 7 fun K hK=> ?_;go_simp;go_call HF.out _ h1 as e w2 ⟨rfl,h2,f2⟩;have F2:=F1.trans f2;have hY:=DC.out _ F2;clear f2;go_wp2_with fail;refine hK.out _ _ _ hY fun yH=> ?_;clear hK K;refine tkZ 8 ?_;refine wpAnyH_done (by kernel_rfl) ?_ _;try simp only[gP,List.getElem_cons_zero]
 go_wp2;go_ret;exact⟨rfl,h2,F0.trans F2⟩
structure InsP(T H:Nat→Nat)(n h k g:Nat):Prop where
 hk:k≤n
 hg:g≤n
 no: ∀j,j<k→endB T H n (h+j) j=false
 yes:endB T H n (h+k) k=true
 gap:gapT T n (h+k)=some g
theorem zt3(h:IsH w q t)(g:IxI t L E)(hx:BlkE t x X)(hE:E x=X){g0 k gg:Nat}(hp:fndT t.sl (hmE t E) t.s (X.hash %t.s) (fun z=>z==x)=none)(hg0:gapT t.sl t.s (X.hash %t.s)=some g0)(ip:InsP t.sl (hmE t E) t.s (X.hash %t.s) k gg):Calls prog 113 #[q,x] w (zR (0:Int) fun w'=>IsH w' q (t.wsl (up (shS t.s (X.hash %t.s+k) gg t.sl) ((X.hash %t.s+k) %t.s) x))∧Fr q.blocks w w'):=by
 have hs:=g.s0;have hs1:=g.s1;have hml:X.hash %t.s<t.s:=Nat.mod_lt _ hs;have hx4:=(hx.pos h.m.ok).2;have HOF:=hid (show Calls prog 75 #[q] w (zN (.agg #[q,t.s]) w)from iof h.m);have HBL:=hid (fun W (hW:IsH W q t)=>(show Calls prog 175 #[.agg #[q,t.s],x] W (zR (0:Int) fun w'=>IsH w' q t∧Fr q.blocks W w')from zt0 hW t.s hs hx))
 have HPL:=hid (fun W (hW:IsH W q t)=>(show Calls prog 176 #[.agg #[q,t.s],x] W (zR (.int .i64 (-1)) fun w'=>IsH w' q t∧Fr q.blocks W w')from by
  have:=zt2 hW g hx;rw[hp]at this;exact this))
 have HHM:=hid (fun W (hW:IsH W q t)=>(show Calls prog 213 #[.agg #[q,t.s],x] W (zR (.int .i64 (X.hash %t.s:Nat)) fun w'=>IsH w' q t∧Fr q.blocks W w')from zty hW hs (by omega) hx))
 have HG0:=hid (fun W (hW:IsH W q t)=>(show Calls prog 214 #[.agg #[q,t.s],.int .i64 (X.hash %t.s:Nat)] W (zR g0 fun w'=>IsH w' q t∧Fr q.blocks W w')from by
  have:=igap hW g (X.hash %t.s) (by omega);rw[hg0]at this;exact this))
 have HEN:=hid (fun W j (hj:j≤k) (hW:IsH W q t)=>(show Calls prog 215 #[.agg #[q,t.s],.int .i64 (X.hash %t.s+j:Nat),j] W (zR (.bool (endB t.sl (hmE t E) t.s (X.hash %t.s+j) j)) fun w'=>IsH w' q t∧Fr q.blocks W w')from ztz hW g _ j (by have:=ip.hk;omega)))
 have HG1:=hid (fun W (hW:IsH W q t)=>(show Calls prog 214 #[.agg #[q,t.s],.int .i64 (X.hash %t.s+k:Nat)] W (zR gg fun w'=>IsH w' q t∧Fr q.blocks W w')from by
  have:=igap hW g (X.hash %t.s+k) (by have:=ip.hk;omega);rw[ip.gap]at this;exact this))
 have HGT:=hid (fun W (T:Nat→Nat) (i:Nat) (hi:i<gg) (hW:IsH W q (t.wsl T))=>(show Calls prog 177 #[.agg #[q,t.s],.int .i64 (X.hash %t.s+k+i:Nat)] W (zR (.int .i64 (T ((X.hash %t.s+k+i) %t.s))) fun w'=>IsH w' q (t.wsl T)∧Fr q.blocks W w')from
  (iget hW.m (X.hash %t.s+k+i) (by have:=ip.hk;have:=ip.hg;omega) hs).mono fun e w' ⟨he,k1,k2⟩=>⟨he,hW.step k1 k2,k2⟩))
 have HVL:=hid (fun W (T:Nat→Nat) (hW:IsH W q (t.wsl T)) (i:Nat)=>(show T i<4294967296 from hW.m.ok.sl i))
 have HPT:=hid (fun W (T:Nat→Nat) (i v:Nat) (hi:i≤gg) (hv:v<4294967296) (hW:IsH W q (t.wsl T))=>(show Calls prog 179 #[.agg #[q,t.s],.int .i64 (X.hash %t.s+k+i:Nat),v] W (zR (.tuple #[]) fun w'=>IsH w' q (t.wsl (up T ((X.hash %t.s+k+i) %t.s) v))∧Fr q.blocks W w')from
  (iput hW.m (X.hash %t.s+k+i) v (by have:=ip.hk;have:=ip.hg;omega) hs hv).mono fun e w' ⟨he,k1,k2⟩=>⟨he,hW.step k1 k2,k2⟩))
 have HT0:=show∀W,IsH W q t→IsH W q (t.wsl t.sl)from fun W hW=>hW;have NO:=hid (fun j (hj:j<k)=>ip.no j hj);have YES:=hid ip.yes;have hkn:=ip.hk;have hgn:=ip.hg;have hlt:=h.m.lt;have HNB:=hid (show∀V:World,w.heap.size≤V.heap.size→V.heap.size∉q.blocks from fun V hV hm=>by have:=hlt _ hm;omega);obtain⟨TF,hTF⟩:∃TF,shS t.s (X.hash %t.s+k) gg t.sl=TF:=⟨_,rfl⟩;rw[hTF];have HSH:=hid hTF;generalize X.hash %t.s=hm at*;generalize hto:hm+k=to at HGT HPT HG1 HSH YES⊢;generalize hmE t E=H at*;generalize t.s=s at*;generalize t.sl=T at*;clear g hx hE hp hg0 ip hlt hTF;go_in;go_wp2_with fail;go_call HOF.out as e w1 ⟨rfl,f1⟩;have K0:=(h.fr0 f1).alloc (.cells #[q,s] 141);have F0:=(f1.nil (S:=q.blocks)).alloc (.cells #[q,s] 141);have nb:=HNB.out w1 f1.size;have B0:=Blk.new w1 141 #[.pointer (some ⟨q.m,0,none⟩),.int .i64 s];generalize hW1:w1.alloc (.cells #[q,s] 141)=W1 at K0 F0 B0;generalize hgt:w1.heap.size=gt at B0 nb;have DC:=hid (fun V (hV:Fr q.blocks W1 V)=>And.intro (show V.cell? ⟨gt,0,none⟩=some (.pointer (some ⟨q.m,0,none⟩))from(B0.fr hV nb).cell 0) (show V.cell? ⟨gt,1,none⟩=some (.int .i64 s)from(B0.fr hV nb).cell 1));have d0:=(DC.out _ (Fr.refl _ _)).1;have d1:=(DC.out _ (Fr.refl _ _)).2;clear f1;go_upto_region 2 with fail;have F1:=Fr.refl q.blocks W1;have hg0':((g0:Int)== -1)=false:=by rw[beq_eq_false_iff_ne];omega
 go_wp2_with fail;go_call HBL.out _ K0 as e w2 ⟨rfl,h2,f2⟩;have F2:=F1.trans f2;have d0:=(DC.out _ F2).1;have d1:=(DC.out _ F2).2;clear f2;go_wp2_with fail;go_call HPL.out _ h2 as e w3 ⟨rfl,h3,f3⟩;have F3:=F2.trans f3;have d0:=(DC.out _ F3).1;have d1:=(DC.out _ F3).2;clear f3;go_wp2_with fail;go_call HHM.out _ h3 as e w4 ⟨rfl,h4,f4⟩;have F4:=F3.trans f4;have d0:=(DC.out _ F4).1;have d1:=(DC.out _ F4).2;clear f4;go_wp2_with fail;go_call HG0.out _ h4 as e w5 ⟨rfl,h5,f5⟩;have F5:=F4.trans f5;clear f5;go_wp2;go_loopw [8] (fun v W=>∃j:Nat,j≤k∧v= .int .i64 (hm+j:Nat)∧Hid (IsH W q t)∧Hid (Fr q.blocks W1 W)) (fun v _=>hm+k-(intOf v).toNat);case atStart=>exact⟨0,by omega,rfl,h5,F5⟩
 case round=>
  clear HBL HPL HHM HG0 K0 h2 h3 h4 h5 F2 F3 F4 F5;obtain⟨j,hj,rfl,hI,hF⟩:=hrel;have d0:=(DC.out _ hF.out).1;have d1:=(DC.out _ hF.out).2;have w1:IntKind.i64.wrap (((hm+j:Nat):Int)-hm)=j:=by rw[i6 _];omega
  have w3:IntKind.i64.wrap (((hm+j:Nat):Int)+1)=(hm+(j+1):Nat):=by rw[i6 _];omega
  have he:=HEN.out _ j hj hI.out;by_cases hlt:j<k
  ·rw[NO.out j hlt]at he
   obtain⟨ja,hja⟩:∃ja,hm+j=ja:=⟨_,rfl⟩;obtain⟨jb,hjb⟩:∃jb,hm+(j+1)=jb:=⟨_,rfl⟩;rw[hja]at he w1 w3⊢;rw[hjb]at w3;have HJB:=hid hjb;have HJA:=hid hja;clear hjb hja;go_wp2_with fail;go_call he as e w6 ⟨rfl,h6,f6⟩;have F6:=hF.trans f6;clear f6 he;go_wp2;go_roundw;case rel=>exact⟨j+1,by omega,by rw[HJB.out],h6,F6⟩
   case measure=>
    have:=HJB.out;have:=HJA.out;simp[intOf];omega
  ·obtain rfl:j=k:=by omega
   rw[hto]at he w1⊢;rw[YES.out]at he;clear hlt w3;go_wp2_with fail;go_call he as e w6 ⟨rfl,h6,f6⟩;have F6:=hF.trans f6;have d0:=(DC.out _ F6).1;have d1:=(DC.out _ F6).2;clear f6 he hI hF w1;go_wp2_with fail;go_call HG1.out _ h6 as e w7 ⟨rfl,h7,f7⟩;have K7:=HT0 _ h7;have F7:=F6.trans f7;clear h7 f7 h6 F6 HEN NO YES HG1;go_wp2;go_loopw [9] (fun v W=>∃(i:Nat) (T':Nat→Nat),i≤gg∧v= .int .i64 i∧Hid (shS s to i T'=TF)∧Hid (IsH W q (t.wsl T'))∧Hid (Fr q.blocks W1 W)) (fun v _=>(intOf v).toNat);case atStart=>exact⟨gg,T,by omega,rfl,HSH,K7,F7⟩
   case round=>
    clear HSH K7 F7;obtain⟨i,T',hi,rfl,hsh,hI,hF⟩:=hrel;have d0:=(DC.out _ hF.out).1;have d1:=(DC.out _ hF.out).2;cases i with
    |succ i=>
     have b1:decide ((0:Int)<((i+1:Nat):Int))=true:=by simp only[decide_eq_true_eq];omega
     have b1':decide (0<i+1)=true:=by simp only[decide_eq_true_eq];omega
     have w1:IntKind.i64.wrap ((to:Int)+((i+1:Nat):Int))=(to+(i+1):Nat):=by rw[i6 _];omega
     have w2:IntKind.i64.wrap (((to+(i+1):Nat):Int)-1)=(to+i:Nat):=by rw[i6 _];omega
     have w3:IntKind.i64.wrap (((i+1:Nat):Int)-1)=i:=by rw[i6 _];omega
     have HGi:=hid (fun W hW=>HGT.out W T' i (by omega) hW);have hv4:=HVL.out _ T' hI.out ((to+i) %s);have HPi:=hid (fun W hW=>HPT.out W T' (i+1) (T' ((to+i) %s)) hi hv4 hW);have HS2:=hid (show shS s to i (up T' ((to+(i+1)) %s) (T' ((to+i) %s)))=TF from hsh.out);generalize up T' ((to+(i+1)) %s) (T' ((to+i) %s))=T2 at*;generalize T' ((to+i) %s)=v at*;generalize to+(i+1)=ti1 at*;generalize to+i=ti at*;generalize hi1:i+1=i1 at*;have hID:=hI.drew;have hY:=DC.out _ hF.drew;clear hsh hv4;go_wp2_with fail;refine wp_region_held_drew (S:=fun W=>W.cell? ⟨gt,0,none⟩=some (.pointer (some ⟨q.m,0,none⟩))∧W.cell? ⟨gt,1,none⟩=some (.int .i64 s)) (by kernel_rfl) (hY) (fun yH=> ?_);refine tkZ 0 ?_;refine tkZ 1 ?_;refine tkZ 2 ?_;refine tkZ 3 ?_;refine tkZ 4 ?_;refine tkZ 5 ?_;refine tkZ 6 ?_;refine tkZ 7 ?_;refine tkZ 8 ?_;refine tkC 9 fun K hK=> ?_;go_simp;go_call HGi.out _ hID as e w8 ⟨rfl,h8,f8⟩;have F8:=hF.drew.trans f8;have hY:=DC.out _ F8;clear f8;go_wp2_with fail;refine hK.out _ _ _ hY fun yH=> ?_;clear hK K;refine tkC 10 fun K hK=> ?_;go_simp;go_call HPi.out _ h8 as e w9 ⟨rfl,h9,f9⟩;have F9:=F8.trans f9;have hY:=DC.out _ F9;clear f9;go_wp2_with fail;refine hK.out _ _ _ hY fun yH=> ?_;clear hK K;refine wpAnyH_done (by kernel_rfl) ?_ _;try simp only[gP,List.getElem_cons_zero]
     go_wp2;go_roundw;case rel=>exact⟨i,T2,by omega,by go_num,HS2,h9,F9⟩
     case measure=>simp[intOf];omega
    |zero=>
     have HS2:=hid (show T'=TF from hsh.out);have HP0:=hid (fun W hW=>HPT.out W T' 0 x (by omega) (by omega) hW);rw[Nat.add_zero]at HP0;clear hsh;go_wp2_with fail;go_call HP0.out _ hI.out as e w8 ⟨rfl,h8,f8⟩;have F8:=hF.trans f8;clear f8;go_wp2;go_ret;exact⟨rfl,by rw[←HS2.out];exact h8,F0.trans F8⟩
end
def dlS(H:Nat→Nat)(n:Nat):Nat→Nat→(Nat→Nat)→(Nat→Nat)
 |0,i,T=>up T (i %n) 0
 |f+1,i,T=>if T ((i+1) %n)=0∨farT T H n (i+1)=0 then up T (i %n) 0 else dlS H n f (i+1) (up T (i %n) (T ((i+1) %n)))
section
variable{w:World}{q:MH}{t:TM}{x:Nat}{X:HB}{L:Nat→Prop}{E:Nat→HB}
theorem BlkE.wsl(h:BlkE t x X)(hok:t.Ok){T:Nat→Nat}(ho:(t.wsl T).Ok):BlkE (t.wsl T) x X:=by
 refine⟨⟨h.h.tg,h.h.base,h.h.al,h.h.fit,h.h.k0,h.h.kinds,fun f hf h0 j hj=> ?_,h.h.lt⟩,h.ok,h.r,h.tg⟩;have hb:=h.h.base;have e1:=zle (t.wsl T) (x+(wh X.tag.toNat f).1+j) (by show zdv t.a t.s≤_;omega) ho;have e2:=zle t (x+(wh X.tag.toNat f).1+j) (by omega) hok;rw[e1];have e3:=h.h.byte f hf h0 j hj;rw[e2]at e3;exact e3
theorem IxI.wsl(g:IxI t L E)(hok:t.Ok){T:Nat→Nat}(ho:(t.wsl T).Ok)(hc:∀i,i<t.s→T i=0∨L (T i)):IxI (t.wsl T) L E:=⟨fun x hx=>(g.e x hx).wsl hok ho,hc,g.s0,g.s1⟩
theorem idel(h:IsH w q t)(g:IxI t L E)(hx:BlkE t x X){i0:Nat}(hi0:i0<t.s)(hp:fndT t.sl (hmE t E) t.s (X.hash %t.s) (fun z=>z==x)=some i0):Calls prog 85 #[q,x] w (zR (0:Int) fun w'=>IsH w' q (t.wsl (dlS (hmE t E) t.s (t.s-1) i0 t.sl))∧Fr q.blocks w w'):=by
 have hs:=g.s0;have hs1:=g.s1;have HOF:=hid (show Calls prog 75 #[q] w (zN (.agg #[q,t.s]) w)from iof h.m);have HBL:=hid (fun W (hW:IsH W q t)=>(show Calls prog 175 #[.agg #[q,t.s],x] W (zR (0:Int) fun w'=>IsH w' q t∧Fr q.blocks W w')from zt0 hW t.s hs hx))
 have HPL:=hid (fun W (hW:IsH W q t)=>(show Calls prog 176 #[.agg #[q,t.s],x] W (zR i0 fun w'=>IsH w' q t∧Fr q.blocks W w')from by
  have:=zt2 hW g hx;rw[hp]at this;exact this))
 have HGT:=hid (fun W (T:Nat→Nat) (i:Nat) (hi:i<131072) (hW:IsH W q (t.wsl T))=>(show Calls prog 177 #[.agg #[q,t.s],i] W (zR (.int .i64 (T (i %t.s))) fun w'=>IsH w' q (t.wsl T)∧Fr q.blocks W w')from
  (iget hW.m i (by omega) hs).mono fun e w' ⟨he,k1,k2⟩=>⟨he,hW.step k1 k2,k2⟩))
 have HFR:=hid (fun W (T:Nat→Nat) (i:Nat) (hi:i<131072) (hc:∀i,i<t.s→T i=0∨L (T i)) (h0:T (i %t.s)≠0) (hW:IsH W q (t.wsl T))=>(show Calls prog 178 #[.agg #[q,t.s],i] W (zR (.int .i64 (farT T (hmE t E) t.s i)) fun w'=>IsH w' q (t.wsl T)∧Fr q.blocks W w')from
  ifar hW (g.wsl h.m.ok hW.m.ok hc) i (by omega) h0))
 have HVL:=hid (fun W (T:Nat→Nat) (hW:IsH W q (t.wsl T)) (i:Nat)=>(show T i<4294967296 from hW.m.ok.sl i))
 have HPT:=hid (fun W (T:Nat→Nat) (i v:Nat) (hi:i<131072) (hv:v<4294967296) (hW:IsH W q (t.wsl T))=>(show Calls prog 179 #[.agg #[q,t.s],i,v] W (zR (.tuple #[]) fun w'=>IsH w' q (t.wsl (up T (i %t.s) v))∧Fr q.blocks W w')from
  (iput hW.m i v (by omega) hs hv).mono fun e w' ⟨he,k1,k2⟩=>⟨he,hW.step k1 k2,k2⟩))
 have HP0:=hid (fun W (T:Nat→Nat) (i:Nat) (hi:i<131072) (hW:IsH W q (t.wsl T))=>(show Calls prog 179 #[.agg #[q,t.s],i,(0:Int)] W (zR (.tuple #[]) fun w'=>IsH w' q (t.wsl (up T (i %t.s) 0))∧Fr q.blocks W w')from HPT.out W T i 0 hi (by decide) hW));have HT0:=show∀W,IsH W q t→IsH W q (t.wsl t.sl)from fun W hW=>hW;have HCL:=hid (show∀i,i<t.s→t.sl i=0∨L (t.sl i)from g.sl);have hlt:=h.m.lt;have HNB:=hid (show∀V:World,w.heap.size≤V.heap.size→V.heap.size∉q.blocks from fun V hV hm=>by have:=hlt _ hm;omega);obtain⟨TF,hTF⟩:∃TF,dlS (hmE t E) t.s (t.s-1) i0 t.sl=TF:=⟨_,rfl⟩;rw[hTF];have HSH:=hid (show dlS (hmE t E) t.s (t.s-1-0) i0 t.sl=TF from hTF);generalize hmE t E=H at*;generalize t.s=s at*;generalize t.sl=T at*;clear g hx hp hlt hTF;go_in;go_wp2_with fail;go_call HOF.out as e w1 ⟨rfl,f1⟩;have K0:=(h.fr0 f1).alloc (.cells #[q,s] 141);have F0:=(f1.nil (S:=q.blocks)).alloc (.cells #[q,s] 141);have nb:=HNB.out w1 f1.size;have B0:=Blk.new w1 141 #[.pointer (some ⟨q.m,0,none⟩),.int .i64 s];generalize hW1:w1.alloc (.cells #[q,s] 141)=W1 at K0 F0 B0;generalize hgt:w1.heap.size=gt at B0 nb;have DC:=hid (fun V (hV:Fr q.blocks W1 V)=>And.intro (show V.cell? ⟨gt,0,none⟩=some (.pointer (some ⟨q.m,0,none⟩))from(B0.fr hV nb).cell 0) (show V.cell? ⟨gt,1,none⟩=some (.int .i64 s)from(B0.fr hV nb).cell 1));have d0:=(DC.out _ (Fr.refl _ _)).1;have d1:=(DC.out _ (Fr.refl _ _)).2;have hi0':((i0:Int)== -1)=false:=by rw[beq_eq_false_iff_ne];omega
 have ws:IntKind.i64.wrap ((s:Int)-1)=(s-1:Nat):=by rw[i6 _];omega
 clear f1;go_upto_region 2 with fail;go_wp2_with fail;go_call HBL.out _ K0 as e w2 ⟨rfl,h2,f2⟩;have d0:=(DC.out _ f2).1;have d1:=(DC.out _ f2).2;go_wp2_with fail;go_call HPL.out _ h2 as e w3 ⟨rfl,h3,f3⟩;have K3:=HT0 _ h3;have F3:=f2.trans f3;have d1:=(DC.out _ F3).2;clear h3 f3 HBL HPL K0 h2 f2;go_wp2;go_loopw [7,24] (fun u v W=>∃(c:Nat) (T':Nat→Nat),c≤s-1∧u= .int .i64 (i0+c:Nat)∧v= .int .i64 c∧Hid (dlS H s (s-1-c) (i0+c) T'=TF)∧Hid (∀i,i<s→T' i=0∨L (T' i))∧Hid (IsH W q (t.wsl T'))∧Hid (Fr q.blocks W1 W)) (fun _ v _=>s-1-(intOf v).toNat);case atStart=>exact⟨0,T,by omega,rfl,rfl,HSH,HCL,K3,F3⟩
 case round=>
  clear HSH HCL K3 F3;obtain⟨c,T',hc,rfl,rfl,hsh,hcl,hI,hF⟩:=hrel;have d0:=(DC.out _ hF.out).1;have d1:=(DC.out _ hF.out).2;have HPE:=hid (fun W hW=>HP0.out W T' (i0+c) (by omega) hW);by_cases hlt:c<s-1
  ·have b1':decide (c<s-1)=true:=by simp only[decide_eq_true_eq];omega
   have w1:IntKind.i64.wrap (((i0+c:Nat):Int)+1)=(i0+(c+1):Nat):=by rw[i6 _];omega
   have w3:=i6 ((c:Int)+1);have hm:(i0+(c+1)) %s<s:=Nat.mod_lt _ hs;have hg:=hid (fun W hW=>HGT.out W T' (i0+(c+1)) (by omega) hW);have hfr:=hid (fun W h0 hW=>HFR.out W T' (i0+(c+1)) (by omega) hcl.out h0 hW);have hv4:=HVL.out _ T' hI.out ((i0+(c+1)) %s);have HPi:=hid (fun W hW=>HPT.out W T' (i0+c) (T' ((i0+(c+1)) %s)) (by omega) hv4 hW)
   have hu:dlS H s (s-1-c) (i0+c) T'=if T' ((i0+(c+1)) %s)=0∨farT T' H s (i0+(c+1))=0 then up T' ((i0+c) %s) 0 else dlS H s (s-1-(c+1)) (i0+(c+1)) (up T' ((i0+c) %s) (T' ((i0+(c+1)) %s))):=by
    rw[show s-1-c=(s-1-(c+1))+1 by omega,dlS];rfl
   rw[hsh.out]at hu
   have HCL2:=hid (show∀i,i<s→up T' ((i0+c) %s) (T' ((i0+(c+1)) %s)) i=0∨L (up T' ((i0+c) %s) (T' ((i0+(c+1)) %s)) i)from fun i hi=>by
    unfold up;split
    ·exact hcl.out _ hm
    ·exact hcl.out i hi)
   generalize hia:i0+(c+1)=ia at hg hfr HPi hu HCL2 w1 hv4;have HIA:=hid hia;generalize up T' ((i0+c) %s) (T' (ia %s))=T2 at*;generalize farT T' H s ia=fa at*;generalize up T' ((i0+c) %s) 0=T3 at*;generalize T' (ia %s)=v at*;have HU:=hid hu;generalize hic:i0+c=ic at w1 HPE HPi⊢;clear hu hv4 hia hic hsh hcl hm;go_wp2_with fail;go_call hg.out _ hI.out as e w8 ⟨rfl,h8,f8⟩;have F8:=hF.trans f8;have d0:=(DC.out _ F8).1;have d1:=(DC.out _ F8).2;clear f8;by_cases hv:v=0
   ·subst hv
    have HR:=hid (show T3=TF from by have:=HU.out;rw[if_pos (.inl (by first|rfl|trivial))]at this;exact this.symm);clear HU hfr;go_wp2_with fail;go_call HPE.out _ h8 as e w9 ⟨rfl,h9,f9⟩;have F9:=F8.trans f9;clear f9;go_wp2;go_ret;exact⟨rfl,by rw[←HR.out];exact h9,F0.trans F9⟩
   ·have b2:((v:Int)==0)=false:=by rw[beq_eq_false_iff_ne];omega
    have b2':(v==0)=false:=by rw[beq_eq_false_iff_ne];omega
    have hf2:=hid (fun W hW=>hfr.out W hv hW);clear hfr;go_wp2_with fail;go_call hf2.out _ h8 as e w9 ⟨rfl,h9,f9⟩;have F9:=F8.trans f9;have d0:=(DC.out _ F9).1;have d1:=(DC.out _ F9).2;clear f9;by_cases hfa:fa=0
    ·subst hfa
     have HR:=hid (show T3=TF from by have:=HU.out;rw[if_pos (.inr (by first|rfl|trivial))]at this;exact this.symm);clear HU;go_wp2_with fail;go_call HPE.out _ h9 as e w10 ⟨rfl,h10,f10⟩;have F10:=F9.trans f10;clear f10;go_wp2;go_ret;exact⟨rfl,by rw[←HR.out];exact h10,F0.trans F10⟩
    ·have b3:((fa:Int)==0)=false:=by rw[beq_eq_false_iff_ne];omega
     have b3':(fa==0)=false:=by rw[beq_eq_false_iff_ne];omega
     have HR:=hid (show dlS H s (s-1-(c+1)) ia T2=TF from by
      have:=HU.out;rw[if_neg (by rintro(e|e);exact hv e;exact hfa e)]at this;exact this.symm)
     clear HU;have hID:=h9.drew;have hY:=DC.out _ F9.drew;go_wp2_with fail;refine wp_region_held_drew (S:=fun W=>W.cell? ⟨gt,0,none⟩=some (.pointer (some ⟨q.m,0,none⟩))∧W.cell? ⟨gt,1,none⟩=some (.int .i64 s)) (by kernel_rfl) (hY) (fun yH=> ?_);refine tkZ 0 ?_;refine tkZ 1 ?_;refine tkZ 2 ?_;refine tkZ 3 ?_;refine tkZ 4 ?_;refine tkC 5 fun K hK=> ?_;go_simp;go_call hg.out _ hID as e w11 ⟨rfl,h11,f11⟩;have F11:=F9.drew.trans f11;have hY:=DC.out _ F11;clear f11;go_wp2_with fail;refine hK.out _ _ _ hY fun yH=> ?_;clear hK K;refine tkC 6 fun K hK=> ?_;go_simp;go_call HPi.out _ h11 as e w12 ⟨rfl,h12,f12⟩;have F12:=F11.trans f12;have hY:=DC.out _ F12;clear f12;go_wp2_with fail;refine hK.out _ _ _ hY fun yH=> ?_;clear hK K;refine wpAnyH_done (by kernel_rfl) ?_ _;try simp only[gP,List.getElem_cons_zero]
     go_wp2;go_roundw;case rel=>exact⟨c+1,T2,by omega,by rw[HIA.out],by go_num,by rw[HIA.out];exact HR,HCL2,h12,F12⟩
     case measure=>simp[intOf];omega
  ·obtain rfl:c=s-1:=by omega
   have b1':=dF (s-1<s-1)
   have HR:=hid (show up T' ((i0+(s-1)) %s) 0=TF from by
    have:=hsh.out;rw[Nat.sub_self]at this;exact this)
   generalize s-1=sm at*;generalize hic:i0+sm=ic at HPE HR⊢;clear hlt hsh hcl hic;go_wp2_with fail;go_call HPE.out _ hI.out as e w9 ⟨rfl,h9,f9⟩;have F9:=hF.trans f9;clear f9;go_wp2;go_ret;exact⟨rfl,by rw[←HR.out];exact h9,F0.trans F9⟩
end
def dst(n h s:Nat):Nat:=if s<h then s+n-h else s-h
section
variable{n:Nat}{T H:Nat→Nat}{a h s:Nat}
theorem zt4(i:Nat):farT T H n i=dst n (H (T (i %n))) (i %n):=rfl
theorem zt5(hs:s<n):(s+1) %n=if s+1=n then 0 else s+1:=by
 split
 ·next e=>rw[e,Nat.mod_self]
 ·next e=>exact Nat.mod_eq_of_lt (by omega)
theorem zt6(a j:Nat):((a+j) %n+1) %n=(a+(j+1)) %n:=by rw[Nat.mod_add_mod,Nat.add_assoc]
theorem zt7{i j:Nat}(hi:i<n)(hj:j<n)(h:(a+i) %n=(a+j) %n):i=j:=by
 rcases Nat.le_total i j with hij|hij
 ·have:=Nat.sub_mod_eq_zero_of_mod_eq h.symm
  rw[show a+j-(a+i)=j-i by omega,Nat.mod_eq_of_lt (by omega)]at this;omega
 ·have:=Nat.sub_mod_eq_zero_of_mod_eq h
  rw[show a+i-(a+j)=i-j by omega,Nat.mod_eq_of_lt (by omega)]at this;omega
theorem zt8(a:Nat)(hs:s<n):∃j,j<n∧(a+j) %n=s:=by
 have h0:0<n:=by omega
 have ha:=Nat.mod_lt a h0;refine⟨(s+n-a %n) %n,Nat.mod_lt _ h0,?_⟩;rw[Nat.add_mod_mod,←Nat.mod_add_mod];rw[show a %n+(s+n-a %n)=s+n by omega,Nat.add_mod_right,Nat.mod_eq_of_lt hs]
theorem zt9{k:Nat}(hh:h<n)(hk:k<n):dst n h ((h+k) %n)=k:=by
 unfold dst;by_cases c:h+k<n
 ·rw[Nat.mod_eq_of_lt c,if_neg (by omega)];omega
 ·have:(h+k) %n=h+k-n:=by
   rw[Nat.mod_eq_sub_mod (by omega),Nat.mod_eq_of_lt (by omega)]
  rw[this,if_pos (by omega)];omega
theorem zua(hh:h<n)(hs:s<n)(hd:dst n h s+1<n):dst n h ((s+1) %n)=dst n h s+1:=by
 rw[zt5 hs];unfold dst at hd⊢;split at hd<;>split<;>split<;>omega
structure RH(n:Nat)(T H:Nat→Nat):Prop where
 n0:0<n
 hm: ∀y,H y<n
 rh: ∀s,s<n→T ((s+1) %n)≠0→0<dst n (H (T ((s+1) %n))) ((s+1) %n)→T s≠0∧dst n (H (T ((s+1) %n))) ((s+1) %n)≤dst n (H (T s)) s+1
theorem RH.gapFar(r:RH n T H)(e:Nat)(he:T (e %n)=0):∀d,d+1<n→T ((e+(d+1)) %n)≠0→dst n (H (T ((e+(d+1)) %n))) ((e+(d+1)) %n)≤d
 |0,hd,h0=>by
  by_cases hp:0<dst n (H (T ((e+(0+1)) %n))) ((e+(0+1)) %n)
  ·have:=r.rh (e %n) (Nat.mod_lt _ r.n0)
   rw[Nat.mod_add_mod]at this;exact absurd he (this h0 hp).1
  ·omega
 |d+1,hd,h0=>by
  by_cases hp:0<dst n (H (T ((e+(d+1+1)) %n))) ((e+(d+1+1)) %n)
  ·have:=r.rh ((e+(d+1)) %n) (Nat.mod_lt _ r.n0)
   rw[zt6]at this;obtain⟨h1,h2⟩:=this h0 hp;have:=RH.gapFar r e he d (by omega) h1;omega
  ·omega
theorem zub(n to:Nat):∀(g:Nat) (T:Nat→Nat),g<n→(∀i,i<g→shS n to g T ((to+(i+1)) %n)=T ((to+i) %n))∧(∀s,(∀i,i<g→s≠(to+(i+1)) %n)→shS n to g T s=T s)
 |0,T,_=>⟨fun i hi=>absurd hi (Nat.not_lt_zero _),fun s _=>rfl⟩
 |g+1,T,hg=>by
  obtain⟨h1,h2⟩:=zub n to g (up T ((to+(g+1)) %n) (T ((to+g) %n))) (by omega);refine⟨fun i hi=> ?_,fun s hs=> ?_⟩
  ·show shS n to g (up T ((to+(g+1)) %n) (T ((to+g) %n))) _=_
   by_cases e:i=g
   ·subst e
    rw[h2 _ (fun j hj e=>by
     have:=zt7 (a:=to) (i:=i+1) (j:=j+1) (by omega) (by omega) e;omega),zf1]
   ·rw[h1 i (by omega),zf2]
    intro e2;have:=zt7 (a:=to) (i:=i) (j:=g+1) (by omega) (by omega) e2;omega
  ·show shS n to g (up T ((to+(g+1)) %n) (T ((to+g) %n))) s=T s
   rw[h2 s (fun i hi=>hs i (by omega)),zf2];exact hs g (by omega)
theorem zuc(n a:Nat)(T:Nat→Nat):∀f k r,gapS T n a f k=some r→k≤r∧r<k+f∧T ((a+r) %n)=0∧∀j,k≤j→j<r→T ((a+j) %n)≠0
 |0,k,r,h=>nomatch h
 |f+1,k,r,h=>by
  unfold gapS at h;by_cases h0:T ((a+k) %n)=0
  ·rw[if_pos h0]at h
   injection h with h;subst h;exact⟨Nat.le_refl _,by omega,h0,fun j h1 h2=>by omega⟩
  ·rw[if_neg h0]at h
   obtain⟨h1,h2,h3,h4⟩:=zuc n a T f (k+1) r h
   exact⟨by omega,by omega,h3,fun j j1 j2=>by
    by_cases e:j=k
    ·rw[e];exact h0
    ·exact h4 j (by omega) j2⟩
theorem zud(n a:Nat)(T:Nat→Nat):∀f k,gapS T n a f k=none→∀j,k≤j→j<k+f→T ((a+j) %n)≠0
 |0,k,_,j,h1,h2=>by omega
 |f+1,k,h,j,h1,h2=>by
  unfold gapS at h;by_cases h0:T ((a+k) %n)=0
  ·rw[if_pos h0]at h;exact nomatch h
  ·rw[if_neg h0]at h
   by_cases e:j=k
   ·rw[e];exact h0
   ·exact zud n a T f (k+1) h j (by omega) (by omega)
theorem zue{b:Nat}(h0:0<n){g:Nat}(hg:gapT T n a=some g):∃g',gapT T n b=some g':=by
 cases h:gapT T n b with
 |some g'=>exact⟨g',rfl⟩
 |none=>
  obtain⟨_,_,h3,_⟩:=zuc n a T n 0 g hg;obtain⟨j,hj,e⟩:=zt8 (n:=n) b (Nat.mod_lt (a+g) h0);have:=zud n b T n 0 h j (Nat.zero_le _) (by omega);rw[e]at this;exact absurd h3 this
theorem zuf(P:Nat→Bool):∀m,P m=true→∃k,k≤m∧P k=true∧∀j,j<k→P j=false
 |0,h=>⟨0,Nat.le_refl _,h,fun j hj=>absurd hj (Nat.not_lt_zero _)⟩
 |m+1,h=>by
  by_cases hm:∃j,j≤m∧P j=true
  ·obtain⟨j,hj,hp⟩:=hm
   obtain⟨k,hk,h1,h2⟩:=zuf P j hp;exact⟨k,by omega,h1,h2⟩
  ·refine⟨m+1,Nat.le_refl _,h,fun j hj=> ?_⟩
   cases hp:P j with
   |false=>rfl
   |true=>exact absurd ⟨j,by omega,hp⟩ hm
theorem zug(h0:0<n)(hh:h<n){g0:Nat}(hg:gapT T n h=some g0):∃k g,InsP T H n h k g∧k<n∧g<n:=by
 obtain⟨_,g1,g2,_⟩:=zuc n h T n 0 g0 hg;obtain⟨k,hk,h1,h2⟩:=zuf (fun j=>endB T H n (h+j) j) g0 (by unfold endB;rw[if_pos g2]);obtain⟨g,hg'⟩:=zue (b:=h+k) h0 hg;obtain⟨_,g3,_,_⟩:=zuc n (h+k) T n 0 g hg';exact⟨k,g,⟨by omega,by omega,h2,h1,hg'⟩,by omega,by omega⟩
end
def insX(T:Nat→Nat)(n to g x:Nat):Nat→Nat:=up (shS n to g T) (to %n) x
structure InsQ(n:Nat)(T H:Nat→Nat)(h k g x:Nat):Prop where
 r:RH n T H
 ip:InsP T H n h k g
 kn:k<n
 gn:g<n
 hx:H x=h
 x0:x≠0
 nx: ∀s,s<n→T s≠x
section
variable{n:Nat}{T H:Nat→Nat}{h k g x s:Nat}
theorem InsQ.hn(Q:InsQ n T H h k g x):h<n:=by rw[←Q.hx];exact Q.r.hm x
theorem InsQ.gap0(Q:InsQ n T H h k g x):T ((h+k+g) %n)=0:=(zuc n (h+k) T n 0 g Q.ip.gap).2.2.1
theorem InsQ.gap1(Q:InsQ n T H h k g x){j:Nat}(hj:j<g):T ((h+k+j) %n)≠0:=(zuc n (h+k) T n 0 g Q.ip.gap).2.2.2 j (Nat.zero_le _) hj
theorem InsQ.pre(Q:InsQ n T H h k g x){j:Nat}(hj:j<k):T ((h+j) %n)≠0∧j≤dst n (H (T ((h+j) %n))) ((h+j) %n):=by
 have:=Q.ip.no j hj;unfold endB at this;by_cases h0:T ((h+j) %n)=0
 ·rw[if_pos h0]at this;exact nomatch this
 ·rw[if_neg h0]at this
  refine⟨h0,?_⟩;have:=of_decide_eq_false this;rw[zt4]at this;omega
theorem InsQ.end0(Q:InsQ n T H h k g x)(h0:T ((h+k) %n)≠0):dst n (H (T ((h+k) %n))) ((h+k) %n)<k:=by
 have:=Q.ip.yes;unfold endB at this;rw[if_neg h0]at this;have:=of_decide_eq_true this;rw[zt4]at this;exact this
theorem InsQ.out(Q:InsQ n T H h k g x){j i:Nat}(hj:j<k)(hi:i≤g):(h+j) %n≠(h+k+i) %n:=by
 intro e;have hk:=Q.kn;have hg:=Q.gn;by_cases c:k+i<n
 ·rw[Nat.add_assoc]at e
  have:=zt7 (n:=n) (a:=h) (i:=j) (j:=k+i) (by omega) c e;omega
 ·have e2:(h+k+i) %n=(h+(k+i-n)) %n:=by
   rw[show h+k+i=h+(k+i-n)+n by omega,Nat.add_mod_right]
  rw[e2]at e;have h0:=Q.gap0;rw[show h+k+g=h+(k+g-n)+n by omega,Nat.add_mod_right]at h0;exact(Q.pre (j:=k+g-n) (by omega)).1 h0
theorem InsQ.at0(Q:InsQ n T H h k g x):insX T n (h+k) g x ((h+k) %n)=x:=zf1 _ _ _
theorem InsQ.at1(Q:InsQ n T H h k g x){i:Nat}(hi:i<g):insX T n (h+k) g x ((h+k+(i+1)) %n)=T ((h+k+i) %n):=by
 unfold insX;rw[zf2,(zub n (h+k) g T Q.gn).1 i hi];intro e;have:=zt7 (n:=n) (a:=h+k) (i:=i+1) (j:=0) (by have:=Q.gn;omega) (by have:=Q.gn;omega) e;omega
theorem InsQ.at2(Q:InsQ n T H h k g x)(hs:∀i,i≤g→s≠(h+k+i) %n):insX T n (h+k) g x s=T s:=by
 unfold insX;rw[zf2 _ _ (by have:=hs 0 (Nat.zero_le _);rwa[Nat.add_zero]at this),(zub n (h+k) g T Q.gn).2 s (fun i hi=>hs (i+1) (by omega))]
theorem InsQ.atPre(Q:InsQ n T H h k g x){j:Nat}(hj:j<k):insX T n (h+k) g x ((h+j) %n)=T ((h+j) %n):=Q.at2 (fun i hi=>Q.out hj hi)
theorem InsQ.far(Q:InsQ n T H h k g x){j:Nat}(hj:j<g):dst n (H (T ((h+k+j) %n))) ((h+k+j) %n)+1<n:=by
 have hg:=Q.gn;have:=Q.r.gapFar (h+k+g) Q.gap0 (n-g+j-1) (by omega);rw[show h+k+g+(n-g+j-1+1)=h+k+j+n by omega,Nat.add_mod_right]at this;have:=this (Q.gap1 hj);omega
theorem InsQ.farS(Q:InsQ n T H h k g x){j:Nat}(hj:j<g):dst n (H (T ((h+k+j) %n))) ((h+k+(j+1)) %n)=dst n (H (T ((h+k+j) %n))) ((h+k+j) %n)+1:=by
 have:=zua (n:=n) (h:=H (T ((h+k+j) %n))) (s:=(h+k+j) %n) (Q.r.hm _) (Nat.mod_lt _ Q.r.n0) (Q.far hj);rw[zt6]at this;exact this
theorem InsQ.rh(Q:InsQ n T H h k g x):RH n (insX T n (h+k) g x) H:=by
 have hg:=Q.gn;refine⟨Q.r.n0,Q.r.hm,fun s hs h0 hp=> ?_⟩;obtain⟨j,hj,rfl⟩:=zt8 (n:=n) (h+k) hs;rw[zt6]at h0 hp⊢
 have hin:∀i,i<n→g<i→∀i',i'≤g→(h+k+i) %n≠(h+k+i') %n:=fun i hi hgi i' hi' e=>by
  have:=zt7 (n:=n) (a:=h+k) hi (by omega) e;omega
 by_cases c1:j+1=n
 ·rw[show h+k+(j+1)=h+k+n by omega,Nat.add_mod_right]at hp⊢
  rw[Q.at0,Q.hx,zt9 Q.hn Q.kn]at hp⊢
  have e:(h+k+j) %n=(h+(k-1)) %n:=by
   rw[show h+k+j=h+(k-1)+n by omega,Nat.add_mod_right]
  rw[e,Q.atPre (by omega)];have:=Q.pre (j:=k-1) (by omega);exact⟨this.1,by omega⟩
 ·by_cases c2:j<g
  ·rw[Q.at1 c2,Q.farS c2]
   rcases j with _|j
   ·rw[Nat.add_zero,Q.at0,Q.hx,zt9 Q.hn Q.kn]
    have:=Q.end0 (by have:=Q.gap1 c2;rwa[Nat.add_zero]at this);exact⟨Q.x0,by omega⟩
   ·rw[Q.at1 (by omega),Q.farS (by omega)]
    refine⟨Q.gap1 (by omega),?_⟩;by_cases c3:0<dst n (H (T ((h+k+(j+1)) %n))) ((h+k+(j+1)) %n)
    ·have:=Q.r.rh ((h+k+j) %n) (Nat.mod_lt _ Q.r.n0)
     rw[zt6]at this;have:=(this (Q.gap1 c2) c3).2;omega
    ·omega
  ·have e1:insX T n (h+k) g x ((h+k+(j+1)) %n)=T ((h+k+(j+1)) %n):=Q.at2 (fun i' hi'=>hin (j+1) (by omega) (by omega) i' hi')
   rw[e1]at h0 hp⊢;have rr:=Q.r.rh ((h+k+j) %n) (Nat.mod_lt _ Q.r.n0);rw[zt6]at rr;have:=rr h0 hp;by_cases c3:j=g
   ·subst c3
    exact absurd Q.gap0 this.1
   ·rw[Q.at2 (fun i' hi'=>hin j hj (by omega) i' hi')]
    exact this
theorem zuh{P:Nat→Prop}(Q:InsQ n T H h k g x)(hT:∀s,s<n→T s=0∨P (T s))(hx:P x):∀s,s<n→insX T n (h+k) g x s=0∨P (insX T n (h+k) g x s):=fun s hs=>by
 obtain⟨j,hj,rfl⟩:=zt8 (n:=n) (h+k) hs;rcases j with _|j
 ·rw[Nat.add_zero,Q.at0];exact .inr hx
 ·by_cases c:j<g
  ·rw[Q.at1 c];exact hT _ (Nat.mod_lt _ Q.r.n0)
  ·rw[Q.at2 (fun i hi e=>by
    have:=zt7 (n:=n) (a:=h+k) hj (by omega) e;omega)]
   exact hT _ hs
end
section
end
def isEn(E:Nat→HB)(name typ hs:Nat)(z:Nat):Bool:=(E z).tag==1&&(E z).name==name&&(E z).typ==typ&&(E z).hash==hs
section
variable{w:World}{q:MH}{t:TM}{L:Nat→Prop}{E:Nat→HB}
theorem zui(h:IsH w q t)(g:IxI t L E)(P:Nat→Bool)(hs bA bB bC bD:Nat)(hh:hs<4294967296)(hIS:∀W,IsH W q t→Fr q.blocks w W→∀y,L y→Calls prog 146 #[y,some bA,some bB,some bC,some bD] W (zR (.bool (P y)) fun w'=>IsH w' q t∧Fr q.blocks W w')):Calls prog 253 #[.agg #[q,t.s],.agg #[.int .u32 hs,.func (.func 146) #[] #[.pointer (some ⟨bA,0,none⟩),.pointer (some ⟨bB,0,none⟩),.pointer (some ⟨bC,0,none⟩),.pointer (some ⟨bD,0,none⟩)]]] w (zR (.int .i64 (optZ (fndT t.sl (hmE t E) t.s (hs %t.s) P))) fun w'=>IsH w' q t∧Fr q.blocks w w'):=by
 have b0:((t.s:Int)==0)=false:=by have:=g.s0;rw[beq_eq_false_iff_ne];omega
 have b0':(t.s==0)=false:=by have:=g.s0;rw[beq_eq_false_iff_ne];omega
 have hs1:=g.s1;have hml:hs %t.s<t.s:=Nat.mod_lt _ g.s0;have HM:=hid (fun W=>ztw W hs t.s hh g.s0 (by have:=g.s1;omega));have HE:=hid (fun W k (hk:k<t.s) (hW:IsH W q t)=>(show Calls prog 215 #[.agg #[q,t.s],.int .i64 (hs %t.s+k:Nat),k] W (zR (.bool (endB t.sl (hmE t E) t.s (hs %t.s+k) k)) fun w'=>IsH w' q t∧Fr q.blocks W w')from ztz hW g (hs %t.s+k) k (by omega)))
 have HG:=hid (fun W k (hk:k<t.s) (hW:IsH W q t)=>(show Calls prog 177 #[.agg #[q,t.s],.int .i64 (hs %t.s+k:Nat)] W (zR (.int .i64 (t.sl ((hs %t.s+k) %t.s))) fun w'=>IsH w' q t∧Fr q.blocks W w')from
  (iget hW.m _ (by omega) g.s0).mono fun e w' ⟨he,k1,k2⟩=>⟨he,hW.step k1 k2,k2⟩))
 have HO:=hid (fun W k (hk:k<t.s)=>(show Calls prog 267 #[.agg #[q,t.s],.int .i64 (hs %t.s+k:Nat)] W (zR (.int .i64 ((hs %t.s+k) %t.s:Nat)) fun w'=>Fr [] W w')from ztv W q.m t.s _ g.s0 (by omega)));have HIS:=hid hIS
 have HLV:=hid (show∀i j,endB t.sl (hmE t E) t.s i j=false→L (t.sl (i %t.s))from fun i j e=>by
  unfold endB at e;by_cases h0:t.sl (i %t.s)=0
  ·rw[if_pos h0]at e;exact nomatch e
  ·exact(g.sl _ (Nat.mod_lt _ g.s0)).resolve_left h0)
 have H0:=(h.alloc (.cells #[q,t.s] 141)).alloc (.cells #[.int .u32 hs,.func (.func 146) #[] #[.pointer (some ⟨bA,0,none⟩),.pointer (some ⟨bB,0,none⟩),.pointer (some ⟨bC,0,none⟩),.pointer (some ⟨bD,0,none⟩)]] 208);have F0:=((Fr.refl q.blocks w).alloc (.cells #[q,t.s] 141)).alloc (.cells #[.int .u32 hs,.func (.func 146) #[] #[.pointer (some ⟨bA,0,none⟩),.pointer (some ⟨bB,0,none⟩),.pointer (some ⟨bC,0,none⟩),.pointer (some ⟨bD,0,none⟩)]] 208);have B0:=(Blk.new w 141 #[.pointer (some ⟨q.m,0,none⟩),.int .i64 t.s]).alloc (.cells #[.int .u32 hs,.func (.func 146) #[] #[.pointer (some ⟨bA,0,none⟩),.pointer (some ⟨bB,0,none⟩),.pointer (some ⟨bC,0,none⟩),.pointer (some ⟨bD,0,none⟩)]] 208);have hb1:=Blk.new (w.alloc (.cells #[q,t.s] 141)) 208 #[.int .u32 hs,.func (.func 146) #[] #[.pointer (some ⟨bA,0,none⟩),.pointer (some ⟨bB,0,none⟩),.pointer (some ⟨bC,0,none⟩),.pointer (some ⟨bD,0,none⟩)]];rw[World.size_alloc]at hb1;have hlt:=h.m.lt;have nb:w.heap.size∉q.blocks:=fun hm=>by have:=hlt _ hm;omega
 have nb1:w.heap.size+1∉q.blocks:=fun hm=>by have:=hlt _ hm;omega
 obtain⟨W0,hW0⟩:∃W0,(w.alloc (.cells #[q,t.s] 141)).alloc (.cells #[.int .u32 hs,.func (.func 146) #[] #[.pointer (some ⟨bA,0,none⟩),.pointer (some ⟨bB,0,none⟩),.pointer (some ⟨bC,0,none⟩),.pointer (some ⟨bD,0,none⟩)]] 208)=W0:=⟨_,rfl⟩;have HW0:=hid hW0;rw[hW0]at H0 F0 B0 hb1;have DC:=hid (fun V (hV:Fr q.blocks W0 V)=>And.intro (show V.cell? ⟨w.heap.size,0,none⟩=some (.pointer (some ⟨q.m,0,none⟩))from(B0.fr hV nb).cell 0) (And.intro (show V.cell? ⟨w.heap.size,1,none⟩=some (.int .i64 t.s)from(B0.fr hV nb).cell 1) (And.intro (show V.cell? ⟨w.heap.size+1,0,none⟩=some (.int .u32 hs)from(hb1.fr hV nb1).cell 0) (show V.cell? ⟨w.heap.size+1,1,none⟩=some (.func (.func 146) #[] #[.pointer (some ⟨bA,0,none⟩),.pointer (some ⟨bB,0,none⟩),.pointer (some ⟨bC,0,none⟩),.pointer (some ⟨bD,0,none⟩)])from(hb1.fr hV nb1).cell 1))));obtain⟨R,hR⟩:∃R,fndT t.sl (hmE t E) t.s (hs %t.s) P=R:=⟨_,rfl⟩;rw[hR];have HR:=hid (show fndS t.sl (hmE t E) t.s (hs %t.s) P (t.s-0) 0=R from hR)
 have HUN:=hid (show∀k,k<t.s→fndS t.sl (hmE t E) t.s (hs %t.s) P (t.s-k) k=if endB t.sl (hmE t E) t.s (hs %t.s+k) k=true then none else if P (t.sl ((hs %t.s+k) %t.s))=true then some ((hs %t.s+k) %t.s)else fndS t.sl (hmE t E) t.s (hs %t.s) P (t.s-(k+1)) (k+1)from fun k hk=>by
  rw[show t.s-k=(t.s-(k+1))+1 by omega,fndS])
 have HZ:=hid (show fndS t.sl (hmE t E) t.s (hs %t.s) P (t.s-t.s) t.s=none from by rw[Nat.sub_self];rfl);generalize hF9:fndS t.sl (hmE t E) t.s (hs %t.s) P=FS at*;generalize hsl:t.sl=T at*;generalize hmE t E=H at*;generalize hsz:t.s=s at*;generalize hs %s=hm at*;clear h hlt g hR hsl hF9 hh hIS;go_in;go_wp2_with fail;try rw[hW0]
 clear hsz hW0;have d1:=(DC.out _ (Fr.refl _ _)).2.1;have d2:=(DC.out _ (Fr.refl _ _)).2.2.1;refine wp_scope_jumps 0 (fun a' w'=>∃(k:Nat) (u7 u8 u9 u10 u11 u12 u13 u14 u15 u16 u17 u18 u19 u20 u21 u22 u23 u24 u25 u26 u27 u28 u29 u30 u31 u32 u33 u34 u35 u36 u37 u38 u39 u40 u41:Value),a'={tmps:= #[.agg #[q,s],.agg #[.int .u32 hs,.func (.func 146) #[] #[.pointer (some ⟨bA,0,none⟩),.pointer (some ⟨bB,0,none⟩),.pointer (some ⟨bC,0,none⟩),.pointer (some ⟨bD,0,none⟩)]],.pointer (some ⟨w.heap.size,0,none⟩),.pointer (some ⟨w.heap.size+1,0,none⟩),.int .i64 0,.int .i64 hm,.int .i64 k,u7,u8,u9,u10,u11,u12,u13,u14,u15,u16,u17,u18,u19,u20,u21,u22,u23,u24,u25,u26,u27,u28,u29,u30,u31,u32,u33,u34,u35,u36,u37,u38,u39,u40,u41],defers:= []}∧k≤s∧Hid (FS (s-k) k=R)∧Hid (IsH w' q t)∧Hid (Fr q.blocks W0 w')) (fun a' _=>s-(intOf (a'.tmps.getD 6 undef)).toNat) rfl ?_ ?_
 ·go_wp2_with fail
  go_call HM.out _ as e w1 ⟨rfl,f1⟩;have hI:=hid (H0.fr0 f1);have hF:=hid (f1.nil (S:=q.blocks));have d0:=(DC.out _ hF.out).1;have d1:=(DC.out _ hF.out).2.1;have hlt:0<s:=by omega
  have b1:((0:Int)==s)=false:=by rw[beq_eq_false_iff_ne];omega
  have b1':(0==s)=false:=by rw[beq_eq_false_iff_ne];omega
  have wq1:IntKind.i64.wrap (hm:Int)=hm:=i6 _;have he:=(show Calls prog 215 #[.agg #[q,s],hm,(0:Int)] w1 (zR (.bool (endB T H s hm 0)) fun w'=>IsH w' q t∧Fr q.blocks w1 w')from HE.out w1 0 hlt hI.out);have hg:=hid (fun W hW=>(show Calls prog 177 #[.agg #[q,s],hm] W (zR (.int .i64 (T (hm %s))) fun w'=>IsH w' q t∧Fr q.blocks W w')from HG.out W 0 hlt hW));have ho:=hid (fun W=>(show Calls prog 267 #[.agg #[q,s],hm] W (zN (.int .i64 (hm %s:Nat)) W)from HO.out W 0 hlt));have hu:=HUN.out 0 hlt;rw[HR.out]at hu;simp only[Nat.add_zero]at hu;clear f1 HM;have hLV:endB T H s hm 0=false→L (T (hm %s)):=HLV.out hm 0;generalize endB T H s hm 0=ev at*;generalize T (hm %s)=v at*;generalize hm %s=rk at*;have HU:=hid hu;clear hu;go_wp2_with fail;go_step3;go_wp2_with fail;go_call he as e w2 ⟨rfl,h2,f2⟩;have F2:=hid (hF.trans f2);clear f2 he;rcases ev with _|_
  ·have HLv:=hid (hLV (by first|exact rfl|trivial))
   have H2d:=h2.drew;have hY:=And.intro (DC.out _ F2.drew).1 (And.intro (DC.out _ F2.drew).2.1 (DC.out _ F2.drew).2.2.2);go_wp2_with fail;refine wp_region_held_drew (S:=fun W=>W.cell? ⟨w.heap.size,0,none⟩=some (.pointer (some ⟨q.m,0,none⟩))∧W.cell? ⟨w.heap.size,1,none⟩=some (.int .i64 s)∧W.cell? ⟨w.heap.size+1,1,none⟩=some (.func (.func 146) #[] #[.pointer (some ⟨bA,0,none⟩),.pointer (some ⟨bB,0,none⟩),.pointer (some ⟨bC,0,none⟩),.pointer (some ⟨bD,0,none⟩)])) (by kernel_rfl) (hY) (fun yH=> ?_);refine tkZ 0 ?_;refine tkZ 1 ?_;refine tkZ 2 ?_;refine tkZ 3 ?_;refine tkZ 4 ?_;refine tkZ 5 ?_;refine tkC 6 fun K hK=> ?_;go_simp;go_call hg.out _ H2d as e w4 ⟨rfl,h4,f4⟩;have F4:=hid (F2.drew.trans f4);have hY:=And.intro (DC.out _ F4.out).1 (And.intro (DC.out _ F4.out).2.1 (DC.out _ F4.out).2.2.2);clear f4;go_wp2_with fail;refine hK.out _ _ _ hY fun yH=> ?_;clear hK K;refine tkC 7 fun K hK=> ?_;go_simp;go_call HIS.out _ h4 (F0.trans F4.out) _ HLv.out as e w5 ⟨rfl,h5,f5⟩;have F5:=hid (F4.trans f5);have hY:=And.intro (DC.out _ F5.out).1 (And.intro (DC.out _ F5.out).2.1 (DC.out _ F5.out).2.2.2);clear f5;go_wp2_with fail;refine hK.out _ _ _ hY fun yH=> ?_;clear hK K;refine wpAnyH_done (by kernel_rfl) ?_ _;try simp only[gP,List.getElem_cons_zero]
   obtain⟨c,hc⟩:∃c:Bool,P v=c:=⟨_,rfl⟩;rw[hc];rw[hc]at HU;clear hY;rcases c with _|_
   ·have HN:=hid (show FS (s-1) 1=R from by have:=HU.out;simpa using this.symm)
    go_wp2_with fail;go_step3;refine⟨rfl,1,_,_,_,_,_,_,_,_,_,_,_,_,_,_,_,_,_,_,_,_,_,_,_,_,_,_,_,_,_,_,_,_,_,_,_,by first|rfl|(congr 1;go_num),by omega,HN,h5,F5⟩
   ·have HRR:=hid (show(rk:Int)=optZ R from by have:=HU.out;simp at this;rw[this];rfl)
    go_wp2_with fail;go_call ho.out _ as e w6 ⟨rfl,f6⟩;have H6:=h5.fr0 f6;have F6:=F5.trans f6.nil;clear f6;go_wp2_with fail;try simp only[Exit.jump]
    go_ret;exact⟨by rw[←HRR.out];rfl,H6,F0.trans F6⟩
  ·have HRR:=hid (show(-1:Int)=optZ R from by have:=HU.out;simp at this;rw[this];rfl)
   go_wp2_with fail;try simp only[Exit.jump]
   go_ret;exact⟨by rw[←HRR.out];rfl,h2,F0.trans F2.out⟩
 ·rintro a' w' ⟨k,u7,u8,u9,u10,u11,u12,u13,u14,u15,u16,u17,u18,u19,u20,u21,u22,u23,u24,u25,u26,u27,u28,u29,u30,u31,u32,u33,u34,u35,u36,u37,u38,u39,u40,u41,rfl,hks,hRk,hI,hF⟩
  have d0:=(DC.out _ hF.out).1;have d1:=(DC.out _ hF.out).2.1;by_cases hlt:k<s
  ·have b1:((k:Int)==s)=false:=by rw[beq_eq_false_iff_ne];omega
   have b1':(k==s)=false:=by rw[beq_eq_false_iff_ne];omega
   have w1:IntKind.i64.wrap ((hm:Int)+k)=(hm+k:Nat):=by rw[i6 _];omega
   have w3:=i6 ((k:Int)+1);have he:=HE.out _ k hlt hI.out;have hg:=hid (fun W hW=>HG.out W k hlt hW);have ho:=hid (fun W=>HO.out W k hlt);have hu:=HUN.out k hlt;rw[hRk.out]at hu;generalize hm+k=ak at*;have hLV:endB T H s ak k=false→L (T (ak %s)):=HLV.out ak k;generalize endB T H s ak k=ev at*;generalize T (ak %s)=v at*;generalize ak %s=rk at*;have HU:=hid hu;clear hu;go_wp2_with fail;go_call he as e w2 ⟨rfl,h2,f2⟩;have F2:=hid (hF.trans f2);clear f2 he;rcases ev with _|_
   ·have HLv:=hid (hLV (by first|exact rfl|trivial))
    have H2d:=h2.drew;have hY:=And.intro (DC.out _ F2.drew).1 (And.intro (DC.out _ F2.drew).2.1 (DC.out _ F2.drew).2.2.2);go_wp2_with fail;refine wp_region_held_drew (S:=fun W=>W.cell? ⟨w.heap.size,0,none⟩=some (.pointer (some ⟨q.m,0,none⟩))∧W.cell? ⟨w.heap.size,1,none⟩=some (.int .i64 s)∧W.cell? ⟨w.heap.size+1,1,none⟩=some (.func (.func 146) #[] #[.pointer (some ⟨bA,0,none⟩),.pointer (some ⟨bB,0,none⟩),.pointer (some ⟨bC,0,none⟩),.pointer (some ⟨bD,0,none⟩)])) (by kernel_rfl) (hY) (fun yH=> ?_);refine tkZ 0 ?_;refine tkZ 1 ?_;refine tkZ 2 ?_;refine tkZ 3 ?_;refine tkZ 4 ?_;refine tkZ 5 ?_;refine tkC 6 fun K hK=> ?_;go_simp;go_call hg.out _ H2d as e w4 ⟨rfl,h4,f4⟩;have F4:=hid (F2.drew.trans f4);have hY:=And.intro (DC.out _ F4.out).1 (And.intro (DC.out _ F4.out).2.1 (DC.out _ F4.out).2.2.2);clear f4;go_wp2_with fail;refine hK.out _ _ _ hY fun yH=> ?_;clear hK K;refine tkC 7 fun K hK=> ?_;go_simp;go_call HIS.out _ h4 (F0.trans F4.out) _ HLv.out as e w5 ⟨rfl,h5,f5⟩;have F5:=hid (F4.trans f5);have hY:=And.intro (DC.out _ F5.out).1 (And.intro (DC.out _ F5.out).2.1 (DC.out _ F5.out).2.2.2);clear f5;go_wp2_with fail;refine hK.out _ _ _ hY fun yH=> ?_;clear hK K;refine wpAnyH_done (by kernel_rfl) ?_ _;try simp only[gP,List.getElem_cons_zero]
    obtain⟨c,hc⟩:∃c:Bool,P v=c:=⟨_,rfl⟩;rw[hc];rw[hc]at HU;clear hY;rcases c with _|_
    ·have HN:=hid (show FS (s-(k+1)) (k+1)=R from by have:=HU.out;simpa using this.symm)
     go_wp2_with fail;go_step3;refine⟨rfl,⟨k+1,_,_,_,_,_,_,_,_,_,_,_,_,_,_,_,_,_,_,_,_,_,_,_,_,_,_,_,_,_,_,_,_,_,_,_,by first|rfl|(congr 1;go_num),by omega,HN,h5,F5⟩,by simp[intOf];omega⟩
    ·have HRR:=hid (show(rk:Int)=optZ R from by have:=HU.out;simp at this;rw[this];rfl)
     go_wp2_with fail;go_call ho.out _ as e w6 ⟨rfl,f6⟩;have H6:=h5.fr0 f6;have F6:=F5.trans f6.nil;clear f6;go_wp2_with fail;try simp only[Exit.jump]
     go_ret;exact⟨by rw[←HRR.out];rfl,H6,F0.trans F6⟩
   ·have HRR:=hid (show(-1:Int)=optZ R from by have:=HU.out;simp at this;rw[this];rfl)
    go_wp2_with fail;try simp only[Exit.jump]
    go_ret;exact⟨by rw[←HRR.out];rfl,h2,F0.trans F2.out⟩
  ·obtain rfl:k=s:=by omega
   have HRR:=hid (show(-1:Int)=optZ R from by have:=hRk.out;rw[HZ.out]at this;rw[←this];rfl);go_wp2_with fail;try simp only[Exit.jump]
   go_ret;exact⟨by rw[←HRR.out];rfl,hI.out,F0.trans hF.out⟩
end
section
variable{w:World}{q:MH}{t:TM}{x:Nat}{X:HB}{L:Nat→Prop}{E:Nat→HB}
theorem zuj(h:IsH w q t)(hx:BlkE t x X)(name typ hs bA bB bC bD:Nat)(cA:w.cell? ⟨bA,0,none⟩=some (.pointer (some ⟨q.m,0,none⟩)))(nB:bB∉q.blocks)(nC:bC∉q.blocks)(nD:bD∉q.blocks)
  (kB:Blk w bB 120 #[.int .u32 name]) (kC:Blk w bC 32 #[.int .u16 typ]) (kD:Blk w bD 120 #[.int .u32 hs]):
  Calls prog 146 #[x,some bA,some bB,some bC,some bD] w (zR (.bool (X.tag==1&&X.name==name&&X.typ==typ&&X.hash==hs)) fun w'=>IsH w' q t∧Fr q.blocks w w'):=by
 have HG:=hid (fun W (hW:IsH W q t)=>(show Calls prog 138 #[q,x] W (zR (.tuple #[.agg #[X.tag,X.cls,X.used,X.label,.int .u32 X.name,.int .u32 X.next,.int .u32 X.prev,.int .u32 X.refs,.int .u64 X.expiry,.int .u16 X.typ,X.size,.int .u32 X.hash],(0:Int)]) fun w'=>IsH w' q t∧Fr q.blocks W w')from
  hget W q t hW x X.tag.toNat 5 X hx.h hx.ok hx.r (by rcases hx.tg with e|e<;>rw[e] <;>rfl) hx.lies (.inl rfl)))
 obtain⟨tag,cls,used,label,nm,next,prev,refs,expiry,ty,size,hash⟩:=X;simp only at HG⊢;obtain⟨b1,h1⟩:∃b:Bool,(tag==1)=b:=⟨_,rfl⟩;obtain⟨b2,h2⟩:∃b:Bool,(nm==name)=b:=⟨_,rfl⟩;obtain⟨b3,h3⟩:∃b:Bool,(ty==typ)=b:=⟨_,rfl⟩;obtain⟨b4,h4⟩:∃b:Bool,(hash==hs)=b:=⟨_,rfl⟩;have e2:((nm:Int)==name)=b2:=by rw[←h2,Bool.eq_iff_iff,beq_iff_eq,beq_iff_eq];omega
 have e3:((ty:Int)==typ)=b3:=by rw[←h3,Bool.eq_iff_iff,beq_iff_eq,beq_iff_eq];omega
 have e4:((hash:Int)==hs)=b4:=by rw[←h4,Bool.eq_iff_iff,beq_iff_eq,beq_iff_eq];omega
 have HB:=hid (show(tag==1&&nm==name&&ty==typ&&hash==hs)=(b1&&b2&&b3&&b4)from by rw[h1,h2,h3,h4]);rw[h1,h2,h3,h4];clear hx h2 h3 h4;go_in;go_wp2_with fail;go_call HG.out _ h as e w1 ⟨rfl,k1,f1⟩;have cB:=(kB.fr f1 nB).alloc (.cells #[tag,cls,used,label,.int .u32 nm,.int .u32 next,.int .u32 prev,.int .u32 refs,.int .u64 expiry,.int .u16 ty,size,.int .u32 hash] 122);have cC:=(kC.fr f1 nC).alloc (.cells #[tag,cls,used,label,.int .u32 nm,.int .u32 next,.int .u32 prev,.int .u32 refs,.int .u64 expiry,.int .u16 ty,size,.int .u32 hash] 122);have cD:=(kD.fr f1 nD).alloc (.cells #[tag,cls,used,label,.int .u32 nm,.int .u32 next,.int .u32 prev,.int .u32 refs,.int .u64 expiry,.int .u16 ty,size,.int .u32 hash] 122);have d2:=cB.cell 0;have d3:=cC.cell 0;have d4:=cD.cell 0;simp only[List.getElem?_toArray,List.getElem?_cons_zero]at d2 d3 d4;clear cB cC cD HG;rcases b1 with _|_<;>rcases b2 with _|_<;>rcases b3 with _|_<;>rcases b4 with _|_
 all_goals
  go_wp2;go_ret;exact⟨rfl,k1.alloc _,f1.alloc _⟩
theorem zuk{T H:Nat→Nat}{n h0:Nat}{P:Nat→Bool}(hn:0<n):∀f k i,fndS T H n h0 P f k=some i→i<n
 |0,k,i,h=>nomatch h
 |f+1,k,i,h=>by
  unfold fndS at h;split at h
  ·exact nomatch h
  ·split at h
   ·injection h with h
    rw[←h];exact Nat.mod_lt _ hn
   ·exact zuk hn f (k+1) i h
theorem zul(h:IsH w q t)(g:IxI t L E)(P:Nat→Bool)(hs bA bB bC bD:Nat)(hh:hs<4294967296)(hIS:∀W,IsH W q t→Fr q.blocks w W→∀y,L y→Calls prog 146 #[y,some bA,some bB,some bC,some bD] W (zR (.bool (P y)) fun w'=>IsH w' q t∧Fr q.blocks W w')):Calls prog 145 #[.agg #[q,t.s],.agg #[.int .u32 hs,.func (.func 146) #[] #[.pointer (some ⟨bA,0,none⟩),.pointer (some ⟨bB,0,none⟩),.pointer (some ⟨bC,0,none⟩),.pointer (some ⟨bD,0,none⟩)]]] w (zR (match fndT t.sl (hmE t E) t.s (hs %t.s) P with|some i=> .tuple #[(t.sl i),true] |none=> .tuple #[(0:Int),false]) fun w'=>IsH w' q t∧Fr q.blocks w w'):=by
 have hs0:=g.s0;have hs1:=g.s1;have hF0:Fr q.blocks w ((w.alloc (.cells #[q,t.s] 141)).alloc (.cells #[.int .u32 hs,.func (.func 146) #[] #[.pointer (some ⟨bA,0,none⟩),.pointer (some ⟨bB,0,none⟩),.pointer (some ⟨bC,0,none⟩),.pointer (some ⟨bD,0,none⟩)]] 208)):=((Fr.refl q.blocks w).alloc _).alloc _;have H0:=(h.alloc (.cells #[q,t.s] 141)).alloc (.cells #[.int .u32 hs,.func (.func 146) #[] #[.pointer (some ⟨bA,0,none⟩),.pointer (some ⟨bB,0,none⟩),.pointer (some ⟨bC,0,none⟩),.pointer (some ⟨bD,0,none⟩)]] 208);have HF:=hid (zui H0 g P hs bA bB bC bD hh (fun W hW hf y hy=>hIS W hW (hF0.trans hf) y hy));have B0:=(Blk.new w 141 #[.pointer (some ⟨q.m,0,none⟩),.int .i64 t.s]).alloc;have hlt:=h.m.lt;have nb:w.heap.size∉q.blocks:=fun hm=>by have:=hlt _ hm;omega
 have HGT:=hid (fun W (i:Nat) (hi:i<t.s) (hW:IsH W q t)=>(show Calls prog 177 #[.agg #[q,t.s],i] W (zR (t.sl i) fun w'=>IsH w' q t∧Fr q.blocks W w')from by
  have:=iget hW.m i (by omega) hs0;rw[Nat.mod_eq_of_lt hi]at this;exact this.mono fun e w' ⟨he,k1,k2⟩=>⟨he,hW.step k1 k2,k2⟩))
 have hlt2:∀i,fndT t.sl (hmE t E) t.s (hs %t.s) P=some i→i<t.s:=fun i e=>zuk hs0 _ _ _ e;generalize fndT t.sl (hmE t E) t.s (hs %t.s) P=R at*;generalize t.sl=T at*;generalize t.s=s at*;clear h H0 hIS hlt g;rcases R with _|i
 ·rw[show optZ none= -1 from rfl]at HF
  clear hlt2;go_in;go_wp2_with fail;go_call HF.out as e w1 ⟨rfl,k1,f1⟩;have F1:=hF0.trans f1;clear f1;go_wp2;go_ret2;exact⟨rfl,k1,F1⟩
 ·have hi:=hlt2 i rfl
  rw[show optZ (some i)=i from rfl]at HF;have hi0':((i:Int)== -1)=false:=by rw[beq_eq_false_iff_ne];omega
  have HG:=hid (fun W hW=>HGT.out W i hi hW);dsimp only;generalize T i=v at*;clear hlt2;go_in;go_wp2_with fail;go_call HF.out as e w1 ⟨rfl,k1,f1⟩;have F1:=hF0.trans f1;have hb:=(B0 _).fr f1 nb;have d0:=hb.cell 0;have d1:=hb.cell 1;simp only[gE]at d0 d1;clear f1 hb;go_wp2_with fail;go_call HG.out _ k1 as e w2 ⟨rfl,k2,f2⟩;have F2:=F1.trans f2;clear f2;go_wp2;go_ret2;exact⟨rfl,k2,F2⟩
theorem zum(h:IsH w q t)(g:IxI t L E)(name typ hs:Nat)(hn:name<4294967296)(ht:typ<65536)(hh:hs<4294967296):Calls prog 67 #[q,.int .u32 name,.int .u16 typ,.int .u32 hs] w (zR (match fndT t.sl (hmE t E) t.s (hs %t.s) (isEn E name typ hs)with|some i=> .tuple #[(t.sl i),true] |none=> .tuple #[(0:Int),false]) fun w'=>IsH w' q t∧Fr q.blocks w w'):=by
 obtain⟨A0,hA0⟩:∃A,A=w.alloc (.cells #[q] 26):=⟨_,rfl⟩;obtain⟨A1,hA1⟩:∃A,A=A0.alloc (.cells #[.int .u32 name] 120):=⟨_,rfl⟩;obtain⟨A2,hA2⟩:∃A,A=A1.alloc (.cells #[.int .u16 typ] 32):=⟨_,rfl⟩;obtain⟨A3,hA3⟩:∃A,A=A2.alloc (.cells #[.int .u32 hs] 120):=⟨_,rfl⟩;have z0:A0.heap.size=w.heap.size+1:=by rw[hA0];simp
 have z1:A1.heap.size=w.heap.size+1+1:=by rw[hA1];simp[z0]
 have z2:A2.heap.size=w.heap.size+1+1+1:=by rw[hA2];simp[z1]
 have kA:Blk A3 w.heap.size 26 #[q] :=by rw[hA3,hA2,hA1,hA0];exact(((Blk.new w _ _).alloc _).alloc _).alloc _
 have kB:Blk A3 (w.heap.size+1) 120 #[.int .u32 name] :=by rw[hA3,hA2,hA1,←z0];exact((Blk.new A0 _ _).alloc _).alloc _
 have kC:Blk A3 (w.heap.size+1+1) 32 #[.int .u16 typ] :=by rw[hA3,hA2,←z1];exact(Blk.new A1 _ _).alloc _
 have kD:Blk A3 (w.heap.size+1+1+1) 120 #[.int .u32 hs] :=by rw[hA3,←z2];exact Blk.new A2 _ _
 have fA:Fr q.blocks w A3:=by rw[hA3,hA2,hA1,hA0];exact((((Fr.refl _ w).alloc _).alloc _).alloc _).alloc _
 have hA:IsH A3 q t:=by rw[hA3,hA2,hA1,hA0];exact(((h.alloc _).alloc _).alloc _).alloc _
 have hlt:=h.m.lt;have nq:∀k,w.heap.size≤k→k∉q.blocks:=fun k hk hm=>by have:=hlt _ hm;omega
 have HOF:=hid (fun W (hW:IsH W q t)=>(show Calls prog 75 #[q] W (zN (.agg #[q,t.s]) W)from iof hW.m))
 have HFO:=hid (fun W (hW:IsH W q t) (hf:Fr q.blocks A3 W)=>zul hW g (isEn E name typ hs) hs w.heap.size (w.heap.size+1) (w.heap.size+1+1) (w.heap.size+1+1+1) hh (fun V hV hf2 y hy=>by
  have hF:=hf.trans hf2;have cA:=(kA.fr hF (nq _ (by omega))).cell 0;exact zuj hV (g.e y hy) name typ hs _ _ _ _ (by simpa using cA) (nq _ (by omega)) (nq _ (by omega)) (nq _ (by omega)) (kB.fr hF (nq _ (by omega))) (kC.fr hF (nq _ (by omega))) (kD.fr hF (nq _ (by omega)))))
 have DC:=hid (fun V (hV:Fr q.blocks A3 V)=>And.intro (show V.cell? ⟨w.heap.size,0,none⟩=some (.pointer (some ⟨q.m,0,none⟩))from(kA.fr hV (nq _ (by omega))).cell 0) (show V.cell? ⟨w.heap.size+1+1+1,0,none⟩=some (.int .u32 hs)from(kD.fr hV (nq _ (by omega))).cell 0));have H0:=hA.drew;have hY:=DC.out _ (Fr.refl _ A3).drew;have HA3:((((w.alloc (.cells #[q] 26)).alloc (.cells #[.int .u32 name] 120)).alloc (.cells #[.int .u16 typ] 32)).alloc (.cells #[.int .u32 hs] 120))=A3:=by rw[hA3,hA2,hA1,hA0]
 obtain⟨RV,hRV⟩:∃RV:Value×Value,(match fndT t.sl (hmE t E) t.s (hs %t.s) (isEn E name typ hs)with|some i=>Value.tuple #[(t.sl i),true] |none=> .tuple #[(0:Int),false])= .tuple #[RV.1,RV.2] :=by
  cases fndT t.sl (hmE t E) t.s (hs %t.s) (isEn E name typ hs)with
  |some i=>exact⟨(_,_),rfl⟩
  |none=>exact⟨(_,_),rfl⟩
 rw[hRV]at HFO⊢;obtain⟨r1,r2⟩:=RV;generalize t.s=s at*;clear h g hA0 hA1 hA2 hA3 z0 z1 z2 kA kB kC kD hA hlt hRV;go_in;go_wp2_with fail;try rw[HA3]
 refine wp_region_held_drew (S:=fun W=>W.cell? ⟨w.heap.size,0,none⟩=some (.pointer (some ⟨q.m,0,none⟩))∧W.cell? ⟨w.heap.size+1+1+1,0,none⟩=some (.int .u32 hs)) (by kernel_rfl) (hY) (fun yH=> ?_);refine tkZ 0 ?_;refine tkZ 2 ?_;refine tkZ 3 ?_;refine tkZ 4 ?_;refine tkC 1 fun K hK=> ?_;go_simp;go_call HOF.out _ H0 as e w1 ⟨rfl,f1⟩;have K1:=H0.fr0 f1;have F1:=(Fr.refl q.blocks A3).drew.trans f1.nil;have hY:=DC.out _ F1;clear f1;go_wp2_with fail;refine hK.out _ _ _ hY fun yH=> ?_;clear hK K;refine tkC 5 fun K hK=> ?_;go_simp;go_call HFO.out _ K1 F1 as e w2 ⟨rfl,k2,f2⟩;have F2:=F1.trans f2;have hY:=DC.out _ F2;clear f2;go_wp2_with fail;refine hK.out _ _ _ hY fun yH=> ?_;clear hK K;refine tkZ 6 ?_;refine tkZ 7 ?_;refine tkZ 8 ?_;refine tkZ 9 ?_;refine wpAnyH_done (by kernel_rfl) ?_ _;try simp only[gP,List.getElem_cons_zero]
 go_wp2;go_ret2;exact⟨rfl,k2,fA.trans F2⟩
end
structure RZ(n:Nat)(T H:Nat→Nat):Prop where
 r:RH n T H
 z: ∃s,s<n∧(T s=0∨dst n (H (T s)) s=0)
 nd: ∀s s',s<n→s'<n→T s≠0→T s=T s'→s=s'
def InT(n:Nat)(T:Nat→Nat)(y:Nat):Prop:= ∃s,s<n∧T s=y
section
variable{n:Nat}{T H:Nat→Nat}{h k g x s:Nat}
theorem RZ.congr{H':Nat→Nat}(R:RZ n T H)(hm:∀y,H' y<n)(he:∀s,s<n→T s≠0→H' (T s)=H (T s)):RZ n T H':=by
 refine⟨⟨R.r.n0,hm,fun s hs h0 hd=> ?_⟩,?_,R.nd⟩
 ·rw[he _ (Nat.mod_lt _ R.r.n0) h0]at hd⊢
  obtain⟨r1,r2⟩:=R.r.rh s hs h0 hd;exact⟨r1,by rw[he s hs r1];exact r2⟩
 ·obtain⟨s,hs,hz⟩:=R.z
  refine⟨s,hs,?_⟩;by_cases h0:T s=0
  ·exact .inl h0
  ·rw[he s hs h0];exact hz
theorem zun(hh:h<n)(hs:s<n)(hd:0<dst n h ((s+1) %n)):dst n h s+1=dst n h ((s+1) %n):=by
 rw[zt5 hs]at hd⊢;unfold dst at hd⊢;split at hd<;>split at hd<;>split<;>(try split)<;>omega
theorem RH.way(r:RH n T H){d:Nat}(hd:d<n)(h0:T ((h+d) %n)≠0)(he:d≤dst n (H (T ((h+d) %n))) ((h+d) %n)):∀m j,j+m=d→T ((h+j) %n)≠0∧j≤dst n (H (T ((h+j) %n))) ((h+j) %n)
 |0,j,e=>by
  obtain rfl:j=d:=by omega
  exact⟨h0,he⟩
 |m+1,j,e=>by
  obtain⟨h1,h2⟩:=RH.way r hd h0 he m (j+1) (by omega);have:=r.rh ((h+j) %n) (Nat.mod_lt _ r.n0);rw[zt6]at this;obtain⟨r1,r2⟩:=this h1 (by omega);exact⟨r1,by omega⟩
theorem zuo(P:Nat→Bool){d:Nat}(hd:d<n)(no:∀j,j≤d→endB T H n (h+j) j=false)(hy:P (T ((h+d) %n))=true):∀f j,j+f=n→j≤d→∃k,j≤k∧k≤d∧fndS T H n h P f j=some ((h+k) %n)∧P (T ((h+k) %n))=true∧∀i,j≤i→i<k→P (T ((h+i) %n))=false
 |0,j,e,hj=>by omega
 |f+1,j,e,hj=>by
  unfold fndS;rw[if_neg (by rw[no j hj];decide)];by_cases c:P (T ((h+j) %n))=true
  ·exact⟨j,Nat.le_refl _,hj,by rw[if_pos c],c,fun i h1 h2=>by omega⟩
  ·have hne:j≠d:=fun e=>c (e▸hy)
   rw[if_neg c];obtain⟨k,k1,k2,k3,k4,k5⟩:=zuo P hd no hy f (j+1) (by omega) (by omega)
   exact⟨k,by omega,k2,k3,k4,fun i h1 h2=>by
    by_cases ei:i=j
    ·rw[ei];simpa using c
    ·exact k5 i (by omega) h2⟩
theorem RH.finds(r:RH n T H)(P:Nat→Bool)(hs:s<n)(h0:T s≠0)(hP:P (T s)=true):∃i,i<n∧fndT T H n (H (T s)) P=some i∧P (T i)=true:=by
 obtain⟨d,hd,e⟩:=zt8 (n:=n) (H (T s)) hs;have h1:T ((H (T s)+d) %n)≠0:=by rw[e];exact h0
 have h2:d≤dst n (H (T ((H (T s)+d) %n))) ((H (T s)+d) %n):=by
  have:=zt9 (r.hm (T s)) hd;rw[e]at this⊢;omega
 obtain⟨k,_,_,k3,k4,_⟩:=zuo (T:=T) (H:=H) (h:=H (T s)) P hd (fun j hj=>by
  obtain⟨w1,w2⟩:=r.way hd h1 h2 (d-j) j (by omega);unfold endB;rw[if_neg w1,zt4];exact decide_eq_false (by omega)) (by rw[e];exact hP) n 0 (by omega) (Nat.zero_le _)
 exact⟨_,Nat.mod_lt _ r.n0,k3,k4⟩
theorem zup(P:Nat→Bool)(h0:0<n):∀f j i,fndS T H n h P f j=some i→i<n∧P (T i)=true∧T i≠0
 |0,j,i,e=>nomatch e
 |f+1,j,i,e=>by
  unfold fndS at e;by_cases c:endB T H n (h+j) j=true
  ·rw[if_pos c]at e;exact nomatch e
  ·rw[if_neg c]at e
   by_cases c2:P (T ((h+j) %n))=true
   ·rw[if_pos c2]at e
    injection e with e;subst e;refine⟨Nat.mod_lt _ h0,c2,fun hz=>c ?_⟩;unfold endB;rw[if_pos hz]
   ·rw[if_neg c2]at e
    exact zup P h0 f (j+1) i e
theorem RZ.found(R:RZ n T H)(hx:x≠0):(∀i,fndT T H n (H x) (fun z=>z==x)=some i→i<n∧T i=x)∧(fndT T H n (H x) (fun z=>z==x)=none→∀s,s<n→T s≠x):=by
 refine⟨fun i e=> ?_,fun e s hs es=> ?_⟩
 ·obtain⟨h1,h2,_⟩:=zup _ R.r.n0 n 0 i e
  exact⟨h1,by simpa using h2⟩
 ·obtain⟨i,_,h2,_⟩:=R.r.finds (fun z=>z==x) hs (by rw[es];exact hx) (by rw[es];simp)
  rw[es,e]at h2;exact nomatch h2
theorem InsQ.inT(Q:InsQ n T H h k g x){y:Nat}(hy:y≠0):InT n (insX T n (h+k) g x) y↔y=x∨InT n T y:=by
 have hn:=Q.r.n0;constructor
 ·rintro⟨s,hs,e⟩
  have:=zuh (P:=fun z=>z=x∨InT n T z) Q (fun s hs=> .inr (.inr ⟨s,hs,rfl⟩)) (.inl rfl) s hs;rw[e]at this;exact this.resolve_left hy
 ·rintro(rfl|⟨s,hs,e⟩)
  ·exact⟨_,Nat.mod_lt _ hn,Q.at0⟩
  ·obtain⟨j,hj,rfl⟩:=zt8 (n:=n) (h+k) hs
   by_cases c:j<g
   ·exact⟨_,Nat.mod_lt _ hn,(Q.at1 c).trans e⟩
   ·by_cases c2:j=g
    ·subst c2
     rw[Q.gap0]at e;exact absurd e.symm hy
    ·refine⟨_,hs,(Q.at2 (fun i hi e'=> ?_)).trans e⟩
     have hg:=Q.gn;have:=zt7 (n:=n) (a:=h+k) hj (by omega) e';omega
def srcI(g j:Nat):Nat:=if j=0 then g else if j≤g then j-1 else j
theorem InsQ.src(Q:InsQ n T H h k g x){j:Nat}(hj:j<n)(h0:j≠0):insX T n (h+k) g x ((h+k+j) %n)=T ((h+k+srcI g j) %n)∧srcI g j<n:=by
 unfold srcI;rw[if_neg h0];by_cases c:j≤g
 ·rw[if_pos c]
  obtain⟨i,rfl⟩:∃i,j=i+1:=⟨j-1,by omega⟩;exact⟨Q.at1 (by omega),by omega⟩
 ·rw[if_neg c]
  refine⟨Q.at2 (fun i hi e'=> ?_),hj⟩;have:=zt7 (n:=n) (a:=h+k) hj (by omega) e';omega
theorem InsQ.rz(Q:InsQ n T H h k g x)(R:RZ n T H):RZ n (insX T n (h+k) g x) H:=by
 have hg:=Q.gn;have hk:=Q.kn;have hn:=Q.r.n0;refine⟨Q.rh,?_,fun s s' hs hs' h0 e=> ?_⟩
 ·by_cases c:g+1<n
  ·have e1:insX T n (h+k) g x ((h+k+(g+1)) %n)=T ((h+k+(g+1)) %n):=Q.at2 (fun i hi e'=>by
    have:=zt7 (n:=n) (a:=h+k) c (by omega) e';omega)
   refine⟨_,Nat.mod_lt (h+k+(g+1)) hn,?_⟩;rw[e1];by_cases hz:T ((h+k+(g+1)) %n)=0
   ·exact .inl hz
   ·have:=Q.r.gapFar (h+k+g) Q.gap0 0 (by omega) (by rw[Nat.add_assoc (h+k)];exact hz)
    rw[Nat.add_assoc (h+k),Nat.zero_add]at this;exact .inr (by omega)
  ·have k0:k=0:=by
    rcases Nat.eq_zero_or_pos k with e|hp
    ·exact e
    ·have:=(Q.pre (j:=k-1) (by omega)).1
     have e2:(h+(k-1)) %n=(h+k+g) %n:=by
      rw[show h+k+g=h+(k-1)+n by omega,Nat.add_mod_right]
     rw[e2]at this;exact absurd Q.gap0 this
   refine⟨_,Nat.mod_lt (h+k) hn,.inr ?_⟩;rw[Q.at0,Q.hx,zt9 Q.hn hk];exact k0
 ·obtain⟨j,hj,rfl⟩:=zt8 (n:=n) (h+k) hs
  obtain⟨j',hj',rfl⟩:=zt8 (n:=n) (h+k) hs';by_cases c:j=0
  ·subst c
   by_cases c':j'=0
   ·rw[c']
   ·rw[(Q.src hj' c').1]at e
    have e0:insX T n (h+k) g x ((h+k+0) %n)=x:=Q.at0;rw[e0]at e;exact absurd e.symm (Q.nx _ (Nat.mod_lt _ hn))
  ·by_cases c':j'=0
   ·subst c'
    rw[(Q.src hj c).1]at e;have e0:insX T n (h+k) g x ((h+k+0) %n)=x:=Q.at0;rw[e0]at e;exact absurd e (Q.nx _ (Nat.mod_lt _ hn))
   ·rw[(Q.src hj c).1]at e h0
    rw[(Q.src hj' c').1]at e;have e2:=R.nd _ _ (Nat.mod_lt _ hn) (Nat.mod_lt _ hn) h0 e;have e3:=zt7 (n:=n) (a:=h+k) (Q.src hj c).2 (Q.src hj' c').2 e2;unfold srcI at e3;rw[if_neg c,if_neg c']at e3;have:j=j':=by split at e3<;>split at e3<;>omega
    rw[this]
structure DlP(n:Nat)(T H:Nat→Nat)(i f:Nat)(D:Nat→Nat)(m:Nat):Prop where
 mf:m≤f
 far: ∀j,1≤j→j≤m→T ((i+j) %n)≠0∧dst n (H (T ((i+j) %n))) ((i+j) %n)≠0
 stop:m=f∨T ((i+(m+1)) %n)=0∨dst n (H (T ((i+(m+1)) %n))) ((i+(m+1)) %n)=0
 sh: ∀j,j<m→D ((i+j) %n)=T ((i+(j+1)) %n)
 last:D ((i+m) %n)=0
 out: ∀s,(∀j,j≤m→s≠(i+j) %n)→D s=T s
theorem zuq(n:Nat)(H:Nat→Nat):∀(f i:Nat) (T:Nat→Nat),f<n→∃m,DlP n T H i f (dlS H n f i T) m
 |0,i,T,hf=>⟨0,⟨Nat.le_refl _,fun j h1 h2=>by omega,.inl rfl,fun j hj=>by omega,zf1 _ _ _,fun s hs=>zf2 _ _ (hs 0 (Nat.le_refl _))⟩⟩
 |f+1,i,T,hf=>by
  unfold dlS;by_cases c:T ((i+1) %n)=0∨farT T H n (i+1)=0
  ·rw[if_pos c]
   exact⟨0,⟨Nat.zero_le _,fun j h1 h2=>by omega,.inr c,fun j hj=>by omega,zf1 _ _ _,fun s hs=>zf2 _ _ (hs 0 (Nat.le_refl _))⟩⟩
  ·rw[if_neg c]
   obtain⟨m,P⟩:=zuq n H f (i+1) (up T (i %n) (T ((i+1) %n))) (by omega)
   have hne:∀j,1≤j→j≤f+1→(i+j) %n≠i %n:=fun j h1 h2 e=>by
    have:=zt7 (n:=n) (a:=i) (i:=j) (j:=0) (by omega) (by omega) e;omega
   have hT:∀j,j≤f→up T (i %n) (T ((i+1) %n)) ((i+1+j) %n)=T ((i+(1+j)) %n):=fun j hj=>by
    rw[zf2 _ _ (by rw[Nat.add_assoc];exact hne (1+j) (by omega) (by omega)),Nat.add_assoc]
   have hmf:=P.mf;refine⟨m+1,⟨by omega,fun j h1 h2=> ?_,?_,fun j hj=> ?_,?_,fun s hs=> ?_⟩⟩
   ·by_cases e:j=1
    ·subst e
     exact⟨fun e=>c (.inl e),fun e=>c (.inr e)⟩
    ·obtain⟨j',rfl⟩:∃j',j=1+j':=⟨j-1,by omega⟩
     have:=P.far j' (by omega) (by omega);rw[hT j' (by omega),Nat.add_assoc]at this;exact this
   ·rcases P.stop with e|e
    ·exact .inl (by omega)
    ·by_cases hm:m=f
     ·exact .inl (by omega)
     ·rw[hT (m+1) (by omega),Nat.add_assoc,show 1+(m+1)=m+1+1 by omega]at e
      exact .inr e
   ·by_cases e:j=0
    ·subst e
     rw[P.out _ (fun j' hj' e=>hne (1+j') (by omega) (by omega) (by rw[←Nat.add_assoc];exact e.symm))];show up _ _ _ (i %n)=_;rw[zf1]
    ·obtain⟨j',rfl⟩:∃j',j=1+j':=⟨j-1,by omega⟩
     rw[←Nat.add_assoc,P.sh j' (by omega),hT (j'+1) (by omega)];rfl
   ·rw[show i+(m+1)=i+1+m by omega]
    exact P.last
   ·rw[P.out s (fun j hj e=>hs (1+j) (by omega) (by rw[←Nat.add_assoc];exact e)),zf2]
    exact hs 0 (by omega)
def srcD(m j:Nat):Nat:=if j<m then j+1 else j
theorem DlP.src{D:Nat→Nat}{i m:Nat}(P:DlP n T H i (n-1) D m){j:Nat}(hj:j<n)(hm:j≠m):D ((i+j) %n)=T ((i+srcD m j) %n)∧srcD m j<n∧srcD m j≠0:=by
 have hmf:=P.mf;unfold srcD;by_cases c:j<m
 ·rw[if_pos c];exact⟨P.sh j c,by omega,by omega⟩
 ·rw[if_neg c]
  refine⟨P.out _ (fun j' hj' e=> ?_),hj,by omega⟩;have:=zt7 (n:=n) (a:=i) hj (by omega) e;omega
theorem DlP.inT{D:Nat→Nat}{i m:Nat}(P:DlP n T H i (n-1) D m)(R:RZ n T H){y:Nat}(hy:y≠0):InT n D y↔InT n T y∧y≠T (i %n):=by
 have hn:=R.r.n0;have hmf:=P.mf;constructor
 ·rintro⟨s,hs,e⟩
  obtain⟨j,hj,rfl⟩:=zt8 (n:=n) i hs;by_cases c:j=m
  ·subst c
   rw[P.last]at e;exact absurd e.symm hy
  ·obtain⟨s1,s2,s3⟩:=P.src hj c
   rw[s1]at e;refine⟨⟨_,Nat.mod_lt _ hn,e⟩,fun e2=>s3 ?_⟩;have:=R.nd _ (i %n) (Nat.mod_lt (i+srcD m j) hn) (Nat.mod_lt _ hn) (by rw[e];exact hy) (by rw[e];exact e2);exact zt7 (n:=n) (a:=i) (i:=srcD m j) (j:=0) s2 hn this
 ·rintro⟨⟨s,hs,e⟩,hne⟩
  obtain⟨j,hj,rfl⟩:=zt8 (n:=n) i hs;have hj0:j≠0:=fun e0=>hne (by rw[←e,e0];rfl);by_cases c:j≤m
  ·obtain⟨j',rfl⟩:∃j',j=j'+1:=⟨j-1,by omega⟩
   exact⟨_,Nat.mod_lt (i+j') hn,(P.sh j' (by omega)).trans e⟩
  ·refine⟨_,hs,(P.out _ (fun j' hj' e'=> ?_)).trans e⟩
   have:=zt7 (n:=n) (a:=i) hj (by omega) e';omega
theorem DlP.rz{D:Nat→Nat}{i m:Nat}(P:DlP n T H i (n-1) D m)(R:RZ n T H)(h0:T (i %n)≠0):RZ n D H:=by
 have hn:=R.r.n0;have hmf:=P.mf;refine⟨⟨hn,R.r.hm,fun s hs hd0 hdp=> ?_⟩,⟨_,Nat.mod_lt (i+m) hn,.inl P.last⟩,fun s s' hs hs' hd0 e=> ?_⟩
 ·obtain⟨j',hj',e⟩:=zt8 (n:=n) i (Nat.mod_lt (s+1) hn)
  have hsj:s=(i+(j'+n-1)) %n:=by
   have h1:((i+(j'+n-1)) %n+1) %n=(s+1) %n:=by
    rw[zt6,show i+(j'+n-1+1)=i+j'+n by omega,Nat.add_mod_right,e]
   have h2:=Nat.mod_lt (i+(j'+n-1)) hn;rw[zt5 h2,zt5 hs]at h1;split at h1<;>split at h1<;>omega
  rw[←e]at hd0 hdp⊢;have hjm:j'≠m:=fun e2=>hd0 (by rw[e2];exact P.last);obtain⟨s1,s2,s3⟩:=P.src hj' hjm;rw[s1]at hd0 hdp⊢;by_cases c:j'<m
  ·
   have es:srcD m j'=j'+1:=if_pos c;rw[es]at hd0 hdp⊢;have hfar:=P.far (j'+1) (by omega) (by omega);have hpr:=zun (n:=n) (h:=H (T ((i+(j'+1)) %n))) (s:=(i+j') %n) (R.r.hm _) (Nat.mod_lt _ hn) (by rw[zt6];omega);rw[zt6]at hpr;have hrr:=R.r.rh ((i+j') %n) (Nat.mod_lt _ hn);rw[zt6]at hrr;obtain⟨r1,r2⟩:=hrr hfar.1 (by omega);by_cases cj:j'=0
   ·subst cj
    have hs2:s=(i+(n-1)) %n:=by rw[hsj,Nat.zero_add]
    have hi0:(i+0) %n=i %n:=rfl;rw[hi0]at r1 r2 hpr hdp⊢
    have hm1:m≠n-1:=fun em=>by
     obtain⟨z,hz,hz'⟩:=R.z;obtain⟨jz,hjz,rfl⟩:=zt8 (n:=n) i hz;by_cases c0:jz=0
     ·subst c0
      rw[hi0]at hz';omega
     ·have:=P.far jz (by omega) (by omega)
      omega
    have hD:D s=T s:=P.out s (fun j hj e2=>by
     rw[hs2]at e2;have:=zt7 (n:=n) (a:=i) (i:=n-1) (j:=j) (by omega) (by omega) e2;omega)
    have hrr:=R.r.rh s hs
    have es1:(s+1) %n=i %n:=by
     rw[hs2,zt6,show i+(n-1+1)=i+n by omega,Nat.add_mod_right]
    rw[es1]at hrr;obtain⟨q1,q2⟩:=hrr h0 (by omega);rw[hD];exact⟨q1,by omega⟩
   ·obtain⟨j,rfl⟩:∃j,j'=j+1:=⟨j'-1,by omega⟩
    have hs2:s=(i+j) %n:=by rw[hsj,show i+(j+1+n-1)=i+j+n by omega,Nat.add_mod_right]
    rw[hs2,P.sh j (by omega)];have hpr2:=zun (n:=n) (h:=H (T ((i+(j+1)) %n))) (s:=(i+j) %n) (R.r.hm _) (Nat.mod_lt _ hn) (by rw[zt6];omega);rw[zt6]at hpr2;exact⟨r1,by omega⟩
  ·
   have es:srcD m j'=j':=if_neg c;rw[es]at hd0 hdp⊢;obtain⟨j,rfl⟩:∃j,j'=j+1:=⟨j'-1,by omega⟩;have hs2:s=(i+j) %n:=by rw[hsj,show i+(j+1+n-1)=i+j+n by omega,Nat.add_mod_right]
   have hjm2:j≠m:=fun e2=>by
    subst e2;rcases P.stop with h1|h1|h1
    ·omega
    ·exact hd0 h1
    ·omega
   have hrr:=R.r.rh ((i+j) %n) (Nat.mod_lt _ hn);rw[zt6]at hrr;obtain⟨r1,r2⟩:=hrr hd0 hdp;have:=P.src (j:=j) (by omega) hjm2;have es2:srcD m j=j:=if_neg (by omega);rw[es2]at this;rw[hs2,this.1];exact⟨r1,r2⟩
 ·obtain⟨j,hj,rfl⟩:=zt8 (n:=n) i hs
  obtain⟨j',hj',rfl⟩:=zt8 (n:=n) i hs';have c1:j≠m:=fun e2=>hd0 (by rw[e2];exact P.last);have c2:j'≠m:=fun e2=>hd0 (by rw[e,e2];exact P.last);obtain⟨s1,s2,s3⟩:=P.src hj c1;obtain⟨t1,t2,t3⟩:=P.src hj' c2;rw[s1]at hd0 e;rw[t1]at e;have e2:=zt7 (n:=n) (a:=i) s2 t2 (R.nd _ _ (Nat.mod_lt _ hn) (Nat.mod_lt _ hn) hd0 e);unfold srcD at e2;have:j=j':=by split at e2<;>split at e2<;>omega
  rw[this]
end
section
variable{W:World}{q:MH}{t u:TM}{S:SS}{x n:Nat}
theorem zur(hok:t.Ok){T:Nat→Nat}(ho:(t.wsl T).Ok)(x n:Nat):Out t (t.wsl T) x n:=
 ⟨fun i hi _=>by rw[zle (t.wsl T) i hi ho,zle t i hi hok];rfl,fun g _ _=>rfl⟩
theorem SlI.wsl(hs:SlI t S)(hok:t.Ok){T:Nat→Nat}(ho:(t.wsl T).Ok):SlI (t.wsl T) S:=
 ⟨hs.ls.same' rfl (fun _ _=>rfl) (fun _ _ _=>rfl),fun j hj=>(hs.each j hj).other hok hj rfl rfl (fun _ _=>rfl) (zur hok ho (sla t j+1024) 0) (.inl (Nat.le_refl _))⟩
theorem zus(hok:t.Ok)(i:Nat)(hi:i<4*t.s):mayL t.ms.ks ((slAt t 0+i:Nat):Int) 1 (4:Nat)=true:=by
 have hc:=zge hok.cfg;have hks:t.ms.ks=t.kinds:=rfl;have hlen:=t.kinds_len;unfold slAt;rw[hks];refine zf4 t.kinds (zdu t.a+4*0+i) 1 4 (.inl rfl) (Nat.mod_one _) (by decide) (by rw[hlen];omega) (fun g g1 g2=> ?_);rw[t.kinds_get g (by omega)];unfold zf0;rw[if_neg (by omega),if_neg (by omega),if_neg (by omega),if_pos (by omega)]
theorem zut(h:IsH W q u)(h0:u.sl=fun _=>0):Calls prog 76 #[q,.int .i64 (slAt u 0),.int .i64 (4*u.s:Nat),(4:Int)] W (zR true fun w'=>IsH w' q u∧Fr q.blocks W w'):=by
 have hok:=h.m.ok;have hc:=zge hok.cfg
 have hE:slAt u 0+4*u.s≤u.ms.l.length:=by
  show _≤u.bytes.length;rw[u.bytes_len];unfold slAt;omega
 have e1:spl u.bytes (slAt u 0) (List.replicate (4*u.s) 0)=u.bytes:=by
  refine zn0 (t:=u) (u:=u) (slAt u 0) (List.replicate (4*u.s) 0) (by rw[List.length_replicate,←u.bytes_len];exact hE) rfl rfl (fun i=> ?_);rw[List.length_replicate];split
  ·next hi=>
   have:(List.replicate (4*u.s) 0)[i-slAt u 0]?.getD 0=0:=by
    rw[List.getElem?_replicate];split<;>rfl
   rw[this];unfold slAt at hi;unfold zfz;rw[if_neg (by omega),if_neg (by omega),if_pos (by omega),h0];exact nb_0 _
  ·rfl
 refine(zfw W q u.ms h.m.m (slAt u 0) (4*u.s) 4 hE (fun i hi=>zus hok i hi)).mono fun e w' ⟨he,hm,hf⟩=> ?_
 have hm':IsM w' q u.ms:=by
  have:({u.ms with l:=spl u.ms.l (slAt u 0) (List.replicate (4*u.s) 0)}:MS)=u.ms:=by
   show({u.ms with l:=spl u.bytes (slAt u 0) (List.replicate (4*u.s) 0)}:MS)=u.ms;rw[e1];rfl
  rw[this]at hm;exact hm
 have hf':Fr q.blocks W w':=hf.mono (fun k hk=> .inl (by simp at hk;rcases hk with rfl|rfl<;>simp[MH.blocks]));exact⟨he,h.step ⟨hok,hm',h.m.tab.fr hf' h.m.hi,h.m.hi⟩ hf',hf'⟩
theorem zuu(h:IsH W q u)(h0:u.sl=fun _=>0):Calls prog 22 #[q] W (zR (0:Int) fun w'=>IsH w' q u∧Fr q.blocks W w'):=by
 have hc:=h.m.ok.cfg;have hs0:0<u.s:=by obtain⟨c1,c2,c3,c4,c5⟩:=hc;omega
 have hsm:u.s≤1048576:=by obtain⟨_,_,c3,_,c5⟩:=hc;omega
 have HOF:=hid (show Calls prog 75 #[q] W (zN (.agg #[q,u.s]) W)from iof h.m);have HC:=hid (fun V (hV:IsH V q u)=>tcfg hV.m);have HSL:=hid (fun V (hV:IsH V q u)=>(show Calls prog 77 #[.agg #[u.a,u.s],(0:Int)] V (zN (.int .i64 (slAt u 0)) V)from ztu V hV.m.tab u.a u.s hc 0 hs0));have HZ:=hid (fun V (hV:IsH V q u)=>zut hV h0);have b0:((u.s:Int)==0)=false:=by rw[beq_eq_false_iff_ne];omega
 have b0':(u.s==0)=false:=by rw[beq_eq_false_iff_ne];omega
 have w1:IntKind.i64.wrap ((u.s:Int)*4)=(4*u.s:Nat):=by rw[i6 _];omega
 generalize slAt u 0=z at*;generalize 4*u.s=s4 at*;generalize u.s=s at*;generalize u.a=a at*;clear h0 hc hs0;go_in;go_wp2_with fail;go_call HOF.out as e w1 ⟨rfl,f1⟩;have K0:=((h.fr0 f1).alloc (.cells #[q,s] 141)).fr0 (Fr.refl [] _).drew;have F0:=(f1.alloc (.cells #[q,s] 141)).drew.nil (S:=q.blocks);have hlt:=h.m.lt;have hsz:=f1.size;have nb:w1.heap.size∉q.blocks:=fun hm=>by have:=hlt _ hm;omega
 have B0:=(Blk.new w1 141 #[.pointer (some ⟨q.m,0,none⟩),.int .i64 s]).drew;have DC:=hid (fun V (hV:Fr q.blocks (w1.alloc (.cells #[q,s] 141)).drew V)=>(show V.cell? ⟨w1.heap.size,1,none⟩=some (.int .i64 s)from(B0.fr hV nb).cell 1));have hY:=DC.out _ (Fr.refl _ _);clear f1 hlt hsz;go_wp2_with fail;refine wp_region_held_drew (S:=fun V=>V.cell? ⟨w1.heap.size,1,none⟩=some (.int .i64 s)) (by kernel_rfl) (hY) (fun yH=> ?_);refine tkZ 0 ?_;refine tkZ 1 ?_;refine tkZ 4 ?_;refine tkZ 5 ?_;refine tkZ 6 ?_;refine tkC 2 fun K hK=> ?_;go_simp;go_call HC.out _ K0 as e w2 ⟨rfl,f2⟩;have K2:=K0.fr0 f2;have F2:=f2.nil (S:=q.blocks);have hY:=DC.out _ F2;clear f2;go_wp2_with fail;refine hK.out _ _ _ hY fun yH=> ?_;clear hK K;refine tkC 3 fun K hK=> ?_;go_simp;go_call HSL.out _ K2 as e w3 ⟨rfl,f3⟩;have K3:=K2.fr0 f3;have F3:=F2.trans f3.nil;have hY:=DC.out _ F3;clear f3;go_wp2_with fail;refine hK.out _ _ _ hY fun yH=> ?_;clear hK K;refine tkC 7 fun K hK=> ?_;go_simp;go_call HZ.out _ K3 as e w4 ⟨rfl,h4,f4⟩;have F4:=F3.trans f4;have hY:=DC.out _ F4;clear f4;go_wp2_with fail;refine hK.out _ _ _ hY fun yH=> ?_;clear hK K;refine wpAnyH_done (by kernel_rfl) ?_ _;try simp only[gP,List.getElem_cons_zero]
 go_wp2;go_ret;exact⟨rfl,h4,F0.trans F4⟩
theorem zuv{a s:Nat}(h:IsH W q (newT a s))(hc:Cfg a s):Calls prog 21 #[q] W (zR (0:Int) fun w'=>Fr q.blocks W w'∧∃u,IsH w' q u∧SlI u SS.zero∧u.a=a∧u.s=s∧u.ft=0∧u.sl=fun _=>0):=by
 have hb:=zjr h.m
 have HM:=hid (fun w' (hm:IsT w' q ((newT a s).beg (newT a s).a)) (hf':Fr q.blocks W w')=>(show∃u,IsH w' q u∧SlI u SS.zero∧u.a=a∧u.s=s∧u.ft=0∧u.sl=fun _=>0 from by
  obtain⟨h1,h2⟩:=zp3 a s hc _ hm.ok rfl;exact⟨_,h.step hm hf',h1,zji _ _,h2.s,h2.ft,h2.sl⟩))
 clear h;go_in;go_wp2_with fail;go_call hb as e w1 ⟨rfl,h1,f1⟩;have H1:=hid (HM.out _ h1 f1);clear h1 HM;go_wp2;go_ret;exact⟨rfl,f1,H1.out⟩
end
section
variable{x tag:Nat}{t u:TM}{X:HB}
theorem zuw(hok:t.Ok)(hx:zdv t.a t.s≤x)(htg:tag≤2)(N:Nat→Nat):∀k,k≤12→Out t (t.putH x tag N k) x (sz tag)
 |0,_=>Out.refl _ _ _
 |k+1,hk=>by
  have ih:=zuw hok hx htg N k (by omega);have as_:=zl5 t x tag N k;unfold TM.putH;by_cases h0:(wh tag k).2=0
  ·rw[if_pos h0];exact ih
  ·rw[if_neg h0]
   have w:=zlu tag k htg (by omega) h0;have:=zme (zl6 hok x tag N k) (x+(wh tag k).1) (wh tag k).2 (N k) (by rw[as_.1,as_.2];omega);exact ih.trans (this.wide (by omega) (by omega)) as_.1 as_.2
theorem zux(t:TM)(x tag:Nat)(N:Nat→Nat):∀k,(t.putH x tag N k).rt=t.rt∧(t.putH x tag N k).hd=t.hd∧(t.putH x tag N k).kd=t.kd∧(t.putH x tag N k).ft=t.ft∧(t.putH x tag N k).sl=t.sl
 |0=>⟨rfl,rfl,rfl,rfl,rfl⟩
 |k+1=>by
  unfold TM.putH;split
  ·exact zux t x tag N k
  ·exact zux t x tag N k
theorem BlkE.keep(h:BlkE t x X)(ha:u.a=t.a)(hs:u.s=t.s)(hk:KdOn u x 32 5)(hx4:x %4=0)(hb:∀k,k<sz X.tag.toNat→zfz u (x+k)=zfz t (x+k)):BlkE u x X:=by
 have hz:=zlt X.tag.toNat h.h.tg;refine⟨⟨h.h.tg,by rw[ha,hs];exact h.h.base,h.h.al,by rw[ha,hs];exact h.h.fit,h.h.k0,fun g g1 g2=>hk g g1 (by omega),fun f hf h0 j hj=> ?_,h.h.lt⟩,h.ok,h.r,h.tg⟩;have w:=zlu X.tag.toNat f h.h.tg hf h0;rw[Nat.add_assoc,hb _ (by omega),←Nat.add_assoc];exact h.h.byte f hf h0 j hj
end
section
variable{w:World}{q:MH}{t:TM}{L:Nat→Prop}{E:Nat→HB}
theorem zuy(h:IsH w q t)(g:IxI t L E)(P:Nat→Bool)(hs bA bB bC bD:Nat)(hh:hs<4294967296)(hIS:∀W,IsH W q t→Fr q.blocks w W→∀y,L y→Calls prog 320 #[y,some bA,some bB,some bC,some bD] W (zR (.bool (P y)) fun w'=>IsH w' q t∧Fr q.blocks W w')):Calls prog 253 #[.agg #[q,t.s],.agg #[.int .u32 hs,.func (.func 320) #[] #[.pointer (some ⟨bA,0,none⟩),.pointer (some ⟨bB,0,none⟩),.pointer (some ⟨bC,0,none⟩),.pointer (some ⟨bD,0,none⟩)]]] w (zR (.int .i64 (optZ (fndT t.sl (hmE t E) t.s (hs %t.s) P))) fun w'=>IsH w' q t∧Fr q.blocks w w'):=by
 have b0:((t.s:Int)==0)=false:=by have:=g.s0;rw[beq_eq_false_iff_ne];omega
 have b0':(t.s==0)=false:=by have:=g.s0;rw[beq_eq_false_iff_ne];omega
 have hs1:=g.s1;have hml:hs %t.s<t.s:=Nat.mod_lt _ g.s0;have HM:=hid (fun W=>ztw W hs t.s hh g.s0 (by have:=g.s1;omega));have HE:=hid (fun W k (hk:k<t.s) (hW:IsH W q t)=>(show Calls prog 215 #[.agg #[q,t.s],.int .i64 (hs %t.s+k:Nat),k] W (zR (.bool (endB t.sl (hmE t E) t.s (hs %t.s+k) k)) fun w'=>IsH w' q t∧Fr q.blocks W w')from ztz hW g (hs %t.s+k) k (by omega)))
 have HG:=hid (fun W k (hk:k<t.s) (hW:IsH W q t)=>(show Calls prog 177 #[.agg #[q,t.s],.int .i64 (hs %t.s+k:Nat)] W (zR (.int .i64 (t.sl ((hs %t.s+k) %t.s))) fun w'=>IsH w' q t∧Fr q.blocks W w')from
  (iget hW.m _ (by omega) g.s0).mono fun e w' ⟨he,k1,k2⟩=>⟨he,hW.step k1 k2,k2⟩))
 have HO:=hid (fun W k (hk:k<t.s)=>(show Calls prog 267 #[.agg #[q,t.s],.int .i64 (hs %t.s+k:Nat)] W (zR (.int .i64 ((hs %t.s+k) %t.s:Nat)) fun w'=>Fr [] W w')from ztv W q.m t.s _ g.s0 (by omega)));have HIS:=hid hIS
 have HLV:=hid (show∀i j,endB t.sl (hmE t E) t.s i j=false→L (t.sl (i %t.s))from fun i j e=>by
  unfold endB at e;by_cases h0:t.sl (i %t.s)=0
  ·rw[if_pos h0]at e;exact nomatch e
  ·exact(g.sl _ (Nat.mod_lt _ g.s0)).resolve_left h0)
 have H0:=(h.alloc (.cells #[q,t.s] 141)).alloc (.cells #[.int .u32 hs,.func (.func 320) #[] #[.pointer (some ⟨bA,0,none⟩),.pointer (some ⟨bB,0,none⟩),.pointer (some ⟨bC,0,none⟩),.pointer (some ⟨bD,0,none⟩)]] 208);have F0:=((Fr.refl q.blocks w).alloc (.cells #[q,t.s] 141)).alloc (.cells #[.int .u32 hs,.func (.func 320) #[] #[.pointer (some ⟨bA,0,none⟩),.pointer (some ⟨bB,0,none⟩),.pointer (some ⟨bC,0,none⟩),.pointer (some ⟨bD,0,none⟩)]] 208);have B0:=(Blk.new w 141 #[.pointer (some ⟨q.m,0,none⟩),.int .i64 t.s]).alloc (.cells #[.int .u32 hs,.func (.func 320) #[] #[.pointer (some ⟨bA,0,none⟩),.pointer (some ⟨bB,0,none⟩),.pointer (some ⟨bC,0,none⟩),.pointer (some ⟨bD,0,none⟩)]] 208);have hb1:=Blk.new (w.alloc (.cells #[q,t.s] 141)) 208 #[.int .u32 hs,.func (.func 320) #[] #[.pointer (some ⟨bA,0,none⟩),.pointer (some ⟨bB,0,none⟩),.pointer (some ⟨bC,0,none⟩),.pointer (some ⟨bD,0,none⟩)]];rw[World.size_alloc]at hb1;have hlt:=h.m.lt;have nb:w.heap.size∉q.blocks:=fun hm=>by have:=hlt _ hm;omega
 have nb1:w.heap.size+1∉q.blocks:=fun hm=>by have:=hlt _ hm;omega
 obtain⟨W0,hW0⟩:∃W0,(w.alloc (.cells #[q,t.s] 141)).alloc (.cells #[.int .u32 hs,.func (.func 320) #[] #[.pointer (some ⟨bA,0,none⟩),.pointer (some ⟨bB,0,none⟩),.pointer (some ⟨bC,0,none⟩),.pointer (some ⟨bD,0,none⟩)]] 208)=W0:=⟨_,rfl⟩;have HW0:=hid hW0;rw[hW0]at H0 F0 B0 hb1;have DC:=hid (fun V (hV:Fr q.blocks W0 V)=>And.intro (show V.cell? ⟨w.heap.size,0,none⟩=some (.pointer (some ⟨q.m,0,none⟩))from(B0.fr hV nb).cell 0) (And.intro (show V.cell? ⟨w.heap.size,1,none⟩=some (.int .i64 t.s)from(B0.fr hV nb).cell 1) (And.intro (show V.cell? ⟨w.heap.size+1,0,none⟩=some (.int .u32 hs)from(hb1.fr hV nb1).cell 0) (show V.cell? ⟨w.heap.size+1,1,none⟩=some (.func (.func 320) #[] #[.pointer (some ⟨bA,0,none⟩),.pointer (some ⟨bB,0,none⟩),.pointer (some ⟨bC,0,none⟩),.pointer (some ⟨bD,0,none⟩)])from(hb1.fr hV nb1).cell 1))));obtain⟨R,hR⟩:∃R,fndT t.sl (hmE t E) t.s (hs %t.s) P=R:=⟨_,rfl⟩;rw[hR];have HR:=hid (show fndS t.sl (hmE t E) t.s (hs %t.s) P (t.s-0) 0=R from hR)
 have HUN:=hid (show∀k,k<t.s→fndS t.sl (hmE t E) t.s (hs %t.s) P (t.s-k) k=if endB t.sl (hmE t E) t.s (hs %t.s+k) k=true then none else if P (t.sl ((hs %t.s+k) %t.s))=true then some ((hs %t.s+k) %t.s)else fndS t.sl (hmE t E) t.s (hs %t.s) P (t.s-(k+1)) (k+1)from fun k hk=>by
  rw[show t.s-k=(t.s-(k+1))+1 by omega,fndS])
 have HZ:=hid (show fndS t.sl (hmE t E) t.s (hs %t.s) P (t.s-t.s) t.s=none from by rw[Nat.sub_self];rfl);generalize hF9:fndS t.sl (hmE t E) t.s (hs %t.s) P=FS at*;generalize hsl:t.sl=T at*;generalize hmE t E=H at*;generalize hsz:t.s=s at*;generalize hs %s=hm at*;clear h hlt g hR hsl hF9 hh hIS;go_in;go_wp2_with fail;try rw[hW0]
 clear hsz hW0;have d1:=(DC.out _ (Fr.refl _ _)).2.1;have d2:=(DC.out _ (Fr.refl _ _)).2.2.1;refine wp_scope_jumps 0 (fun a' w'=>∃(k:Nat) (u7 u8 u9 u10 u11 u12 u13 u14 u15 u16 u17 u18 u19 u20 u21 u22 u23 u24 u25 u26 u27 u28 u29 u30 u31 u32 u33 u34 u35 u36 u37 u38 u39 u40 u41:Value),a'={tmps:= #[.agg #[q,s],.agg #[.int .u32 hs,.func (.func 320) #[] #[.pointer (some ⟨bA,0,none⟩),.pointer (some ⟨bB,0,none⟩),.pointer (some ⟨bC,0,none⟩),.pointer (some ⟨bD,0,none⟩)]],.pointer (some ⟨w.heap.size,0,none⟩),.pointer (some ⟨w.heap.size+1,0,none⟩),.int .i64 0,.int .i64 hm,.int .i64 k,u7,u8,u9,u10,u11,u12,u13,u14,u15,u16,u17,u18,u19,u20,u21,u22,u23,u24,u25,u26,u27,u28,u29,u30,u31,u32,u33,u34,u35,u36,u37,u38,u39,u40,u41],defers:= []}∧k≤s∧Hid (FS (s-k) k=R)∧Hid (IsH w' q t)∧Hid (Fr q.blocks W0 w')) (fun a' _=>s-(intOf (a'.tmps.getD 6 undef)).toNat) rfl ?_ ?_
 ·go_wp2_with fail
  go_call HM.out _ as e w1 ⟨rfl,f1⟩;have hI:=hid (H0.fr0 f1);have hF:=hid (f1.nil (S:=q.blocks));have d0:=(DC.out _ hF.out).1;have d1:=(DC.out _ hF.out).2.1;have hlt:0<s:=by omega
  have b1:((0:Int)==s)=false:=by rw[beq_eq_false_iff_ne];omega
  have b1':(0==s)=false:=by rw[beq_eq_false_iff_ne];omega
  have wq1:IntKind.i64.wrap (hm:Int)=hm:=i6 _;have he:=(show Calls prog 215 #[.agg #[q,s],hm,(0:Int)] w1 (zR (.bool (endB T H s hm 0)) fun w'=>IsH w' q t∧Fr q.blocks w1 w')from HE.out w1 0 hlt hI.out);have hg:=hid (fun W hW=>(show Calls prog 177 #[.agg #[q,s],hm] W (zR (.int .i64 (T (hm %s))) fun w'=>IsH w' q t∧Fr q.blocks W w')from HG.out W 0 hlt hW));have ho:=hid (fun W=>(show Calls prog 267 #[.agg #[q,s],hm] W (zN (.int .i64 (hm %s:Nat)) W)from HO.out W 0 hlt));have hu:=HUN.out 0 hlt;rw[HR.out]at hu;simp only[Nat.add_zero]at hu;clear f1 HM;have hLV:endB T H s hm 0=false→L (T (hm %s)):=HLV.out hm 0;generalize endB T H s hm 0=ev at*;generalize T (hm %s)=v at*;generalize hm %s=rk at*;have HU:=hid hu;clear hu;go_wp2_with fail;go_step3;go_wp2_with fail;go_call he as e w2 ⟨rfl,h2,f2⟩;have F2:=hid (hF.trans f2);clear f2 he;rcases ev with _|_
  ·have HLv:=hid (hLV (by first|exact rfl|trivial))
   have H2d:=h2.drew;have hY:=And.intro (DC.out _ F2.drew).1 (And.intro (DC.out _ F2.drew).2.1 (DC.out _ F2.drew).2.2.2);go_wp2_with fail;refine wp_region_held_drew (S:=fun W=>W.cell? ⟨w.heap.size,0,none⟩=some (.pointer (some ⟨q.m,0,none⟩))∧W.cell? ⟨w.heap.size,1,none⟩=some (.int .i64 s)∧W.cell? ⟨w.heap.size+1,1,none⟩=some (.func (.func 320) #[] #[.pointer (some ⟨bA,0,none⟩),.pointer (some ⟨bB,0,none⟩),.pointer (some ⟨bC,0,none⟩),.pointer (some ⟨bD,0,none⟩)])) (by kernel_rfl) (hY) (fun yH=> ?_);refine tkZ 0 ?_;refine tkZ 1 ?_;refine tkZ 2 ?_;refine tkZ 3 ?_;refine tkZ 4 ?_;refine tkZ 5 ?_;refine tkC 6 fun K hK=> ?_;go_simp;go_call hg.out _ H2d as e w4 ⟨rfl,h4,f4⟩;have F4:=hid (F2.drew.trans f4);have hY:=And.intro (DC.out _ F4.out).1 (And.intro (DC.out _ F4.out).2.1 (DC.out _ F4.out).2.2.2);clear f4;go_wp2_with fail;refine hK.out _ _ _ hY fun yH=> ?_;clear hK K;refine tkC 7 fun K hK=> ?_;go_simp;go_call HIS.out _ h4 (F0.trans F4.out) _ HLv.out as e w5 ⟨rfl,h5,f5⟩;have F5:=hid (F4.trans f5);have hY:=And.intro (DC.out _ F5.out).1 (And.intro (DC.out _ F5.out).2.1 (DC.out _ F5.out).2.2.2);clear f5;go_wp2_with fail;refine hK.out _ _ _ hY fun yH=> ?_;clear hK K;refine wpAnyH_done (by kernel_rfl) ?_ _;try simp only[gP,List.getElem_cons_zero]
   obtain⟨c,hc⟩:∃c:Bool,P v=c:=⟨_,rfl⟩;rw[hc];rw[hc]at HU;clear hY;rcases c with _|_
   ·have HN:=hid (show FS (s-1) 1=R from by have:=HU.out;simpa using this.symm)
    go_wp2_with fail;go_step3;refine⟨rfl,1,_,_,_,_,_,_,_,_,_,_,_,_,_,_,_,_,_,_,_,_,_,_,_,_,_,_,_,_,_,_,_,_,_,_,_,by first|rfl|(congr 1;go_num),by omega,HN,h5,F5⟩
   ·have HRR:=hid (show(rk:Int)=optZ R from by have:=HU.out;simp at this;rw[this];rfl)
    go_wp2_with fail;go_call ho.out _ as e w6 ⟨rfl,f6⟩;have H6:=h5.fr0 f6;have F6:=F5.trans f6.nil;clear f6;go_wp2_with fail;try simp only[Exit.jump]
    go_ret;exact⟨by rw[←HRR.out];rfl,H6,F0.trans F6⟩
  ·have HRR:=hid (show(-1:Int)=optZ R from by have:=HU.out;simp at this;rw[this];rfl)
   go_wp2_with fail;try simp only[Exit.jump]
   go_ret;exact⟨by rw[←HRR.out];rfl,h2,F0.trans F2.out⟩
 ·rintro a' w' ⟨k,u7,u8,u9,u10,u11,u12,u13,u14,u15,u16,u17,u18,u19,u20,u21,u22,u23,u24,u25,u26,u27,u28,u29,u30,u31,u32,u33,u34,u35,u36,u37,u38,u39,u40,u41,rfl,hks,hRk,hI,hF⟩
  have d0:=(DC.out _ hF.out).1;have d1:=(DC.out _ hF.out).2.1;by_cases hlt:k<s
  ·have b1:((k:Int)==s)=false:=by rw[beq_eq_false_iff_ne];omega
   have b1':(k==s)=false:=by rw[beq_eq_false_iff_ne];omega
   have w1:IntKind.i64.wrap ((hm:Int)+k)=(hm+k:Nat):=by rw[i6 _];omega
   have w3:=i6 ((k:Int)+1);have he:=HE.out _ k hlt hI.out;have hg:=hid (fun W hW=>HG.out W k hlt hW);have ho:=hid (fun W=>HO.out W k hlt);have hu:=HUN.out k hlt;rw[hRk.out]at hu;generalize hm+k=ak at*;have hLV:endB T H s ak k=false→L (T (ak %s)):=HLV.out ak k;generalize endB T H s ak k=ev at*;generalize T (ak %s)=v at*;generalize ak %s=rk at*;have HU:=hid hu;clear hu;go_wp2_with fail;go_call he as e w2 ⟨rfl,h2,f2⟩;have F2:=hid (hF.trans f2);clear f2 he;rcases ev with _|_
   ·have HLv:=hid (hLV (by first|exact rfl|trivial))
    have H2d:=h2.drew;have hY:=And.intro (DC.out _ F2.drew).1 (And.intro (DC.out _ F2.drew).2.1 (DC.out _ F2.drew).2.2.2);go_wp2_with fail;refine wp_region_held_drew (S:=fun W=>W.cell? ⟨w.heap.size,0,none⟩=some (.pointer (some ⟨q.m,0,none⟩))∧W.cell? ⟨w.heap.size,1,none⟩=some (.int .i64 s)∧W.cell? ⟨w.heap.size+1,1,none⟩=some (.func (.func 320) #[] #[.pointer (some ⟨bA,0,none⟩),.pointer (some ⟨bB,0,none⟩),.pointer (some ⟨bC,0,none⟩),.pointer (some ⟨bD,0,none⟩)])) (by kernel_rfl) (hY) (fun yH=> ?_);refine tkZ 0 ?_;refine tkZ 1 ?_;refine tkZ 2 ?_;refine tkZ 3 ?_;refine tkZ 4 ?_;refine tkZ 5 ?_;refine tkC 6 fun K hK=> ?_;go_simp;go_call hg.out _ H2d as e w4 ⟨rfl,h4,f4⟩;have F4:=hid (F2.drew.trans f4);have hY:=And.intro (DC.out _ F4.out).1 (And.intro (DC.out _ F4.out).2.1 (DC.out _ F4.out).2.2.2);clear f4;go_wp2_with fail;refine hK.out _ _ _ hY fun yH=> ?_;clear hK K;refine tkC 7 fun K hK=> ?_;go_simp;go_call HIS.out _ h4 (F0.trans F4.out) _ HLv.out as e w5 ⟨rfl,h5,f5⟩;have F5:=hid (F4.trans f5);have hY:=And.intro (DC.out _ F5.out).1 (And.intro (DC.out _ F5.out).2.1 (DC.out _ F5.out).2.2.2);clear f5;go_wp2_with fail;refine hK.out _ _ _ hY fun yH=> ?_;clear hK K;refine wpAnyH_done (by kernel_rfl) ?_ _;try simp only[gP,List.getElem_cons_zero]
    obtain⟨c,hc⟩:∃c:Bool,P v=c:=⟨_,rfl⟩;rw[hc];rw[hc]at HU;clear hY;rcases c with _|_
    ·have HN:=hid (show FS (s-(k+1)) (k+1)=R from by have:=HU.out;simpa using this.symm)
     go_wp2_with fail;go_step3;refine⟨rfl,⟨k+1,_,_,_,_,_,_,_,_,_,_,_,_,_,_,_,_,_,_,_,_,_,_,_,_,_,_,_,_,_,_,_,_,_,_,_,by first|rfl|(congr 1;go_num),by omega,HN,h5,F5⟩,by simp[intOf];omega⟩
    ·have HRR:=hid (show(rk:Int)=optZ R from by have:=HU.out;simp at this;rw[this];rfl)
     go_wp2_with fail;go_call ho.out _ as e w6 ⟨rfl,f6⟩;have H6:=h5.fr0 f6;have F6:=F5.trans f6.nil;clear f6;go_wp2_with fail;try simp only[Exit.jump]
     go_ret;exact⟨by rw[←HRR.out];rfl,H6,F0.trans F6⟩
   ·have HRR:=hid (show(-1:Int)=optZ R from by have:=HU.out;simp at this;rw[this];rfl)
    go_wp2_with fail;try simp only[Exit.jump]
    go_ret;exact⟨by rw[←HRR.out];rfl,h2,F0.trans F2.out⟩
  ·obtain rfl:k=s:=by omega
   have HRR:=hid (show(-1:Int)=optZ R from by have:=hRk.out;rw[HZ.out]at this;rw[←this];rfl);go_wp2_with fail;try simp only[Exit.jump]
   go_ret;exact⟨by rw[←HRR.out];rfl,hI.out,F0.trans hF.out⟩
end
end Go.Proofs.YtghllbkjghnmhaaGreatDoor
