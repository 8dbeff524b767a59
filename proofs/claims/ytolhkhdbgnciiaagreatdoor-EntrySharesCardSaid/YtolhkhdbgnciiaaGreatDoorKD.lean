/- Several texts in one. -/
import Derived.Test.YtolhkhdbgnciiaaGreatDoorKB
namespace Go.Proofs.YtolhkhdbgnciiaaGreatDoor
open _root_.Go.Proofs.Tryz
open Go.Lib (hid)
open Go.IntWalk (i64_in)
set_option linter.unusedVariables false
set_option linter.unusedSimpArgs false
open Go.RowKit
set_option maxRecDepth 100000
set_option maxHeartbeats 4000000
structure IsG(W:World)(p:Nat)(ad:Option Addr)(cap:Nat)(R:List Nat)(b:Nat):Prop where
 st:Blk W p 74 #[.slice ad R.length cap,.int .i64 b]
 row:RowV W (p+1) ad cap R
section
variable {w W W' : World} {p : Nat} {ad : Option Addr} {cap : Nat} {R : List Nat} {b x : Nat}
theorem IsG.fr{S:List Nat}(h:IsG W p ad cap R b)(hf:Fr S W W')(hS:∀k∈S,k<p):IsG W' p ad cap R b:=
 ⟨h.st.fr hf (fun hm=>Nat.lt_irrefl _ (hS p hm)),h.row.fr hf (fun k hk=>Nat.lt_succ_of_lt (hS k hk))⟩
theorem IsG.fr0(h:IsG W p ad cap R b)(hf:Fr [] W W'):IsG W' p ad cap R b:=h.fr hf (by simp)
def fnd(R:List Nat)(x:Nat):Int:=if x∈R then(R.idxOf x:Int)else-1
theorem zti(h:x∉R):fnd R x= -1:=if_neg h
theorem zy3{A B:List Nat}(h:x∉A):fnd (A++x::B) x=A.length:=by
 unfold fnd;rw[if_pos (List.mem_append.2 (.inr (List.mem_cons_self ..))),List.idxOf_append,if_neg h,List.idxOf_cons_self,Nat.zero_add]
theorem zv3{k:Nat}(hk:k<R.length)(he:R[k] =x)(hn:∀j (h:j<k),R[j]'(by omega)≠x):fnd R x=k:=by
 have h1:R=R.take k++x::R.drop (k+1):=by
  conv=>lhs;rw[←List.take_append_drop k R,List.drop_eq_getElem_cons hk,he]
 have h2:x∉R.take k:=fun hm=>by
  obtain⟨j,hj,e⟩:=List.mem_iff_getElem.1 hm;rw[List.length_take]at hj;rw[List.getElem_take]at e;exact hn j (by omega) e
 have:=zy3 (B:=R.drop (k+1)) h2;rw[←h1,List.length_take]at this;rw[this];congr 1;omega
theorem zrh(hn:∀j (h:j<R.length),R[j]≠x):fnd R x= -1:=zti (fun hm=>by
 obtain⟨j,hj,e⟩:=List.mem_iff_getElem.1 hm;exact hn j hj e)
theorem z03(h:IsG w p ad cap R b)(hl:R.length≤1048576)(x:Nat):Calls prog 206 #[.pointer (some ⟨p,0,none⟩),.int .i64 x] w fun e w'=>e= .returned (.int .i64 (fnd R x))∧Fr [] w w':=by
 have H:=hid h;generalize hn:R.length=n at*;have HN:=hid hn;clear h hn;go_enter func206,ntmps206;go_wp2_with fail;go_loopw [5] (fun i W=>∃k:Nat,k≤n∧i= .int .i64 k∧Fr [] w W∧Hid (∀j (h:j<k) (h':j<R.length),R[j]≠x)) (fun i _=>n-(intOf i).toNat);case atStart=>exact⟨0,by omega,rfl,Fr.refl _ _,hid (fun j h=>absurd h (Nat.not_lt_zero _))⟩
 case round=>
  obtain⟨k,hk,rfl,hF,hno⟩:=hrel;have HF:=hid hF;have hB:=(H.out.fr0 hF).st;rw[HN.out]at hB;have d0:=hB.cell 0;simp at d0;by_cases hlt:k<n
  ·have hkl:k<R.length:=by have:=HN.out;omega
   obtain⟨g1,rfl,_,r1⟩:=H.out.row (by omega);have cY:=(r1.fr hF (by simp)).cell k hkl;have b1':decide (k<n)=true:=by simp;omega
   have hg2:(0:Int)≤k:=by omega
   have hg3:(k:Int)<n:=by omega
   have w1:=i64_in ((k:Int)+1) (by omega);have hHit:=hid (fun(e:R[k] =x)=>zv3 hkl e (fun j h=>hno.out j h (by omega)))
   have hMis:=hid (fun(e:R[k]≠x)=>(show∀j (h:j<k+1) (h':j<R.length),R[j]≠x from fun j h h'=>by
    rcases Nat.lt_or_ge j k with h1|h1
    ·exact hno.out j h1 h'
    ·have:j=k:=by omega
     subst this;exact e))
   have hno':=hno;clear hno;generalize R[k] =y at*;by_cases hxy:y=x
   ·subst hxy
    have e1:((y:Int)==y)=true:=by simp
    clear hF r1 hB;go_wp2_with fail;go_ret;exact⟨by rw[hHit.out (by first|exact rfl|trivial)];rfl,HF.out⟩
   ·have e1:((y:Int)==x)=false:=by simp;omega
    clear hF r1 hB;go_wp2_with fail;go_roundw;case rel=>exact⟨k+1,by omega,by go_num,HF.out,hid (hMis.out hxy)⟩
    case measure=>simp[intOf];omega
  ·obtain rfl:k=n:=by omega
   have b1':decide (k<k)=false:=by simp
   have hM:=hid (zrh (R:=R) (x:=x) (fun j h=>hno.out j (by have:=HN.out;omega) h));clear hF hno hB;go_wp2_with fail;go_ret;exact⟨by rw[hM.out];rfl,HF.out⟩
end
section
variable {W : World} {p : Nat} {ad : Option Addr} {cap : Nat} {R : List Nat} {b x : Nat}
def IsGy(n:Nat)(W:World)(p:Nat)(R:List Nat)(b:Nat):Prop:= ∃ad cap,IsG W p ad cap R b∧(0<R.length→ ∀g o,ad=some ⟨g,o,none⟩→n≤g)
theorem IsGy.lo{n m:Nat}(h:IsGy n W p R b)(hm:m≤n):IsGy m W p R b:=by
 obtain⟨ad,cap,h,k⟩:=h;exact⟨ad,cap,h,fun h0 g o e=>Nat.le_trans hm (k h0 g o e)⟩
theorem zh7{v:Value}{l:List Nat}{base:Nat}(hst:Blk W p 74 #[.slice ad x cap,.int .i64 b])(hv:Rw W base v l)(hb:p+1≤base):IsGy base (W.setCell ⟨p,0,none⟩ v) p l b:=by
 obtain⟨ad',cap',rfl,hr⟩:=ze3 hv;have hf:Fr [p] W (W.setCell ⟨p,0,none⟩ (.slice ad' l.length cap')):=(Fr.refl [p] W).setCell (p:=⟨p,0,none⟩) (.inl (by simp)) _;refine⟨ad',cap',⟨by simpa using hst.set 0 (.slice ad' l.length cap'),fun h0=> ?_⟩,fun h0 g o e=> ?_⟩
 ·obtain⟨g,e,hg,hr⟩:=hr h0
  exact⟨g,e,by omega,hr.fr hf (by simp;omega)⟩
 ·obtain⟨g',e',hg,hr⟩:=hr h0
  rw[e]at e';injection e' with e';injection e' with e1 e2;omega
end
theorem zey{P:Program}{w:World}{ops:Array Oper}{rest:List Oper}{o:Oper}{a:Act}{Q:Exit→Act→World→Prop}(hgd:o.guard=none)(s x:Operand)(t:TypeId)(ho:o.op= .call {callee:= .builtin .append,args:= #[s,x],argTypes:= #[t,t]})(hty:o.type=t)
  (vs vx v':Value) (w':World) (hs:a.eval s=vs) (hx:a.eval x=vx) (hrun:(Builtin.append_ #[t,t] t #[vs,vx]).run P w= .ok v' w') (h:wpList P ops Q rest (a.put o.dst v') w'):wpList P ops Q (o::rest) a w:=by
 refine wpList_plain hgd fun K hK=> ?_;have hK':=hK _ _ h;subst hty;unfold Oper.wp execOp;simp only[ho,resolve,invoke,builtin,Sem.run_bind,Sem.run_pure,Result.andThen_ok,List.map_toArray,List.map_cons,List.map_nil,hs,hx,hrun];exact hK'
theorem zm9{w:World}{l:List Nat}{base cap:Nat}{ad:Option Addr}(hr:RowV w base ad cap l)(hl:l.length≤1048576):∃v1 w1,(Builtin.append_ #[30,30] 30 #[.slice (some ⟨w.heap.size,0,none⟩) 0 0,.slice ad l.length cap]).run prog (w.alloc (.cells #[] 3))= .ok v1 w1∧Rw w1 w.heap.size v1 l∧Fr [] w w1:=by
 have hO0:(w.alloc (.cells #[] 3)).ownsRow w.heap.size 3 1 (.slice (some ⟨w.heap.size,0,none⟩) 0 0) ([] :List Nat).length (intC []):=z1l w;have f0:Fr [] w (w.alloc (.cells #[] 3)):=(Fr.refl [] w).alloc _
 obtain⟨v1,w1,e1,hO1,g1⟩:=zk0 _ _ _ [] hO0 ad cap l (fun j hj=>by
  obtain⟨g,e,_,hr⟩:=hr (by omega);exact⟨g,0,e,by rw[Nat.zero_add];exact(hr.fr f0 (by simp)).cell j hj⟩) (by simp;omega) f0.size
 rw[List.nil_append]at hO1;exact⟨v1,w1,e1,hO1,zvg hO0 g1 f0 (Nat.le_refl _)⟩
section
variable {w W : World} {p : Nat} {ad : Option Addr} {cap : Nat} {R : List Nat} {b x : Nat}
theorem z1s(h:IsG w p ad cap R b)(hl:R.length≤1048500)(hx:x∉R):Calls prog 106 #[.pointer (some ⟨p,0,none⟩),.int .i64 x] w fun e w'=>e= .returned (.int .i64 0)∧IsGy w.heap.size w' p (R++ [x]) (insB R b x)∧Fr [p] w w':=by
 have HF:=hid (z03 h (by omega) x);rw[zti hx]at HF;obtain⟨nR,hnR⟩:∃n,R.length=n:=⟨_,rfl⟩;by_cases h0:R= []
 ·have EB:=hid (show insB R b x=x from if_pos h0)
  have hn0:nR=0:=by rw[←hnR,h0];rfl
  go_enter func106,ntmps106;go_wp2_with fail;with_reducible refine HF.out.mono ?_
  rintro e w3 ⟨rfl,f3⟩;have hB3:=(h.fr0 f3).st;rw[hnR]at hB3;have hr3:=(h.fr0 f3).row;have d0:=hB3.cell 0;have d1:=hB3.cell 1;have z1:=hB3.frozen 1;simp only[List.getElem?_toArray,List.getElem?_cons_zero,List.getElem?_cons_succ]at d0 d1;have b1:((nR:Int)==0)=true:=by rw[hn0];rfl
  have b1':(nR==0)=true:=by rw[hn0];rfl
  have F3:=hid f3;clear f3 HF;go_upto_region 5 with fail;have hBV:Blk (w3.setCell ⟨p,1,none⟩ (.int .i64 x)) p 74 #[.slice ad nR cap,.int .i64 x] :=by simpa using hB3.set 1 (.int .i64 x)
  have fV:Fr [p] w3 (w3.setCell ⟨p,1,none⟩ (.int .i64 x)):=(Fr.refl [p] w3).setCell (p:=⟨p,1,none⟩) (.inl (by simp)) (.int .i64 x);have F5:=hid ((F3.out.nil (S:= [p])).trans fV);have hrV:=hr3.fr fV (by simp);generalize w3.setCell ⟨p,1,none⟩ (.int .i64 x)=V at*;clear hB3 hr3 d0 d1 z1 b1 b1' F3 hn0 h0 fV h;obtain⟨v1,w1,E1,O1,fc⟩:=zm9 hrV (by omega);rw[hnR]at E1;obtain⟨ad1,cap1,e1,hrow1⟩:=ze3 O1;rw[hnR]at e1;subst e1;have HE1:=hid E1;have d0:=hBV.cell 0;have dA:=(hBV.alloc (.cells #[] 3)).cell 0;simp only[List.getElem?_toArray,List.getElem?_cons_zero]at d0 dA;have hs:V.heap.size≤w1.heap.size:=fc.size;have hpV:=hBV.lt;have ISG:=hid (fun(W:World) (v:Value) (hb:Blk W p 74 #[.slice ad nR cap,.int .i64 x]) (hv:Rw W V.heap.size v (R++ [x]))=>(zh7 hb hv (by omega)).lo F5.out.size);have HBV:=hid hBV;clear E1 hrow1 hBV hrV;go_wp2_with (first|(at_builtin;refine zey rfl _ _ 30 rfl rfl _ _ _ _ rfl rfl HE1.out ?_)|(at_builtin;refine zb9 rfl _ _ rfl rfl V.heap.size _ R rfl x w1 rfl O1 rfl (by omega) hs ?_;intro g1 q1 W1 hO1 hF1 hob1;have hm1:∀g∈ownS (.slice ad1 nR cap1),V.heap.size≤g:=fun g hg=>(O1.lt g (zbw hg)).1;have FW:=hid (F5.out.trans ((fc.nil (S:= [p])).step hF1 (fun g hg=> .inr (hm1 g hg))));have hB1:=(HBV.out.fr fc (by simp)).fr hF1 (fun hm=>by have:=hm1 _ hm;omega);have c0:=hB1.cell 0;have hz:=hB1.frozen 0;have IS:=hid (ISG.out _ _ hB1 hO1);have HN2:=hid hnR;simp only[List.getElem?_toArray,List.getElem?_cons_zero]at c0;clear hO1 hF1 hob1)|fail);go_ret;exact⟨rfl,by rw[EB.out];have h1:=IS.out;rw[HN2.out]at h1;exact h1,FW.out.setCell (p:=⟨p,0,none⟩) (.inl (by simp)) _⟩
 ·have EB:=hid (show insB R b x=b from if_neg h0)
  have hn0:nR≠0:=fun e=>h0 (List.length_eq_zero_iff.1 (hnR.trans e));go_enter func106,ntmps106;go_wp2_with fail;with_reducible refine HF.out.mono ?_
  rintro e w3 ⟨rfl,f3⟩;have hBV:=(h.fr0 f3).st;rw[hnR]at hBV;have hrV:=(h.fr0 f3).row;have b1:((nR:Int)==0)=false:=by rw[beq_eq_false_iff_ne];omega
  have b1':(nR==0)=false:=by rw[beq_eq_false_iff_ne];omega
  have F5:=hid (f3.nil (S:= [p]));clear f3 HF hn0 h0 h;obtain⟨v1,w1,E1,O1,fc⟩:=zm9 hrV (by omega);rw[hnR]at E1;obtain⟨ad1,cap1,e1,hrow1⟩:=ze3 O1;rw[hnR]at e1;subst e1;have HE1:=hid E1;have d0:=hBV.cell 0;have dA:=(hBV.alloc (.cells #[] 3)).cell 0;simp only[List.getElem?_toArray,List.getElem?_cons_zero]at d0 dA;have hs:w3.heap.size≤w1.heap.size:=fc.size;have hpV:=hBV.lt;have ISG:=hid (fun(W:World) (v:Value) (hb:Blk W p 74 #[.slice ad nR cap,.int .i64 b]) (hv:Rw W w3.heap.size v (R++ [x]))=>(zh7 hb hv (by omega)).lo F5.out.size);have HBV:=hid hBV;clear E1 hrow1 hBV hrV;go_wp2_with (first|(at_builtin;refine zey rfl _ _ 30 rfl rfl _ _ _ _ rfl rfl HE1.out ?_)|(at_builtin;refine zb9 rfl _ _ rfl rfl w3.heap.size _ R rfl x w1 rfl O1 rfl (by omega) hs ?_;intro g1 q1 W1 hO1 hF1 hob1;have hm1:∀g∈ownS (.slice ad1 nR cap1),w3.heap.size≤g:=fun g hg=>(O1.lt g (zbw hg)).1;have FW:=hid (F5.out.trans ((fc.nil (S:= [p])).step hF1 (fun g hg=> .inr (hm1 g hg))));have hB1:=(HBV.out.fr fc (by simp)).fr hF1 (fun hm=>by have:=hm1 _ hm;omega);have c0:=hB1.cell 0;have hz:=hB1.frozen 0;have IS:=hid (ISG.out _ _ hB1 hO1);have HN2:=hid hnR;simp only[List.getElem?_toArray,List.getElem?_cons_zero]at c0;clear hO1 hF1 hob1)|fail);go_ret;exact⟨rfl,by rw[EB.out];have h1:=IS.out;rw[HN2.out]at h1;exact h1,FW.out.setCell (p:=⟨p,0,none⟩) (.inl (by simp)) _⟩
end
end Go.Proofs.YtolhkhdbgnciiaaGreatDoor
