/- Several texts in one. -/
import Derived.Test.YtolhkhdbgnciiaaGreatDoorGA
import Derived.WalkSpells
import Derived.WalkLawsBesides
import Derived.Deep.RegionHeld3
import Derived.StillTailTactics
namespace Go.Proofs.YtolhkhdbgnciiaaGreatDoor
open _root_.Go.Proofs.Tryz
open Go.Lib (hid)
open Go.IntWalk (i64_in)
set_option linter.unusedVariables false
set_option linter.unusedSimpArgs false
open Go.RowKit
set_option maxRecDepth 100000
set_option maxHeartbeats 4000000
structure IsW(w:World)(p b:Nat)(ks:List Nat)(lk ft:Int):Prop where
 st:Blk w p 262 #[.slice (some ⟨b,0,none⟩) ks.length ks.length,.int .i64 lk,.int .i64 ft]
 row:Blk w b 5 (bytes ks)
 len:ks.length≤262144
 le: ∀k∈ks,k≤8
theorem IsW.setRow{w:World}{p b:Nat}{ks:List Nat}{lk ft:Int}(h:IsW w p b ks lk ft)(i k:Nat)(hk:k≤8):IsW (w.setCell ⟨b,i,none⟩ (.int .u8 (k:Int))) p b (ks.set i k) lk ft:=by
 refine⟨?_,?_,by rw[List.length_set];exact h.len,fun x hx=>(List.mem_or_eq_of_mem_set hx).elim (h.le x) (fun e=>e▸hk)⟩
 ·rw[List.length_set];exact h.st.far (p:=⟨b,i,none⟩) (h.st.ne_ h.row (by decide)) _
 ·rw[←znu];exact h.row.set i _
theorem IsW.fr{w w':World}{p b:Nat}{ks:List Nat}{lk ft:Int}{S:List Nat}(h:IsW w p b ks lk ft)(hf:Fr S w w')(hp:p∉S)(hb:b∉S):IsW w' p b ks lk ft:=
 ⟨h.st.fr hf hp,h.row.fr hf hb,h.len,h.le⟩
theorem IsW.ne{w:World}{p b:Nat}{ks:List Nat}{lk ft:Int}(h:IsW w p b ks lk ft):p≠b:=h.st.ne_ h.row (by decide)
theorem zct(w:World)(p:Nat)(b n c:Nat)(h:w.cell? ⟨p,0,none⟩=some (.slice (some ⟨b,0,none⟩) n c)):Calls prog 224 #[.pointer (some ⟨p,0,none⟩)] w fun e w'=>e= .returned (.bool false)∧w=w':=by
 have e1:=fun(w:World)=>Lib.run_eql_slice_nil (P:=prog) w 44 5 (some ⟨b,0,none⟩) n c 0 0 underlying44;go_enter func224,ntmps224;go_wp2;go_ret;exact⟨rfl,rfl⟩
theorem zmz(w:World)(p:Nat)(b n c:Nat)(hn:n≤262144)(h:w.cell? ⟨p,0,none⟩=some (.slice (some ⟨b,0,none⟩) n c)):Calls prog 277 #[.pointer (some ⟨p,0,none⟩)] w fun e w'=>e= .returned (.int .i64 (4*n))∧w=w':=by
 go_enter func277,ntmps277;go_wp2;go_ret;exact⟨rfl,rfl⟩
def zc8(sz:Nat)(at_ n:Int):Bool:=decide (0≤at_∧0≤n∧at_≤sz∧n≤sz-at_)
theorem zez(w:World)(p:Nat)(b n c:Nat)(x y:Int)(hn:n≤262144)(h:w.cell? ⟨p,0,none⟩=some (.slice (some ⟨b,0,none⟩) n c)):Calls prog 232 #[.pointer (some ⟨p,0,none⟩),.int .i64 x,.int .i64 y] w fun e w'=>e= .returned (.bool (zc8 (4*n) x y))∧w=w':=by
 have hs:=zmz w p b n c hn h;go_enter func232,ntmps232;go_wp2_with (go_at_call 277;refine hs.mono ?_;rintro e w' ⟨rfl,rfl⟩);all_goals(go_ret;unfold zc8;exact⟨by first|exact zvi (by omega)|exact ret_true (by omega)|exact zfg (by omega),rfl⟩)
theorem zut(w:World):(zeroValue 5).run prog w= .ok (.int .u8 0) w:=by kernel_rfl
def newW(w:World)(m:Nat):World:=(w.alloc (.cells (bytes (List.replicate m 0)) 5)).alloc (.cells #[.slice (some ⟨w.heap.size,0,none⟩) m m,.int .i64 0,.int .i64 0] 262)
theorem zhb(w:World)(m:Nat):Blk (newW w m) w.heap.size 5 (bytes (List.replicate m 0)):=(Blk.new w _ _).alloc _
theorem zuy(w:World)(m:Nat):Blk (newW w m) (w.heap.size+1) 262 #[.slice (some ⟨w.heap.size,0,none⟩) m m,.int .i64 0,.int .i64 0] :=by
 have:=Blk.new (w.alloc (.cells (bytes (List.replicate m 0)) 5)) 262 #[.slice (some ⟨w.heap.size,0,none⟩) m m,.int .i64 0,.int .i64 0];rw[World.size_alloc]at this;exact this
theorem zua(w:World)(m:Nat)(h1:1≤m)(h2:m≤262144):Calls prog 161 #[.int .i64 (4*m)] w fun e w'=>∃p b,e= .returned (.pointer (some ⟨p,0,none⟩))∧IsW w' p b (List.replicate m 0) 0 0∧w.heap.size≤p∧w.heap.size≤b∧Fr [] w w':=by
 have h3:((4*(m:Int)) %4 !=0)=false:=by simp
 have h4:(4*(m:Int))/4=m:=by omega
 have hmk:=zb8 (P:=prog) 44 5 underlying44 zis .i64 .i64 m (by omega)
 have hcl:∀ty,(Builtin.clear_ #[44] ty #[.slice (some ⟨w.heap.size,0,none⟩) m m]).run prog (newW w m)= .ok (.tuple #[]) ((newW w m).setCells w.heap.size 0 (List.replicate m (.int .u8 0))):=fun ty=>
  Lib.run_clear_slice (newW w m) 44 5 ty (.int .u8 0) underlying44 zut rfl rfl w.heap.size 0 m m (by omega)
   (fun j hj=>by rw[(zhb w m).cell,bytes_get _ _ (by simp;omega)];rfl) (fun j _=>(zhb w m).frozen _)
 unfold newW at hcl;go_enter func161,ntmps161;go_wp2;go_ret;refine⟨w.heap.size+1,w.heap.size,rfl,⟨?_,?_,by simp;omega,fun k hk=>by rw[List.eq_of_mem_replicate hk];omega⟩,by omega,by omega,?_⟩
 ·rw[List.length_replicate]
  exact(zuy w m).setCells_far (by omega) _ _
 ·have:=(zhb w m).setCells (List.replicate m (.int .u8 0)) 0
  have e:(List.replicate m (Value.int .u8 0)).toArray=bytes (List.replicate m 0):=by simp[bytes]
  rw[zdi _ _ (by simp[zgi]),e]at this;exact this
 ·exact(((Fr.refl [] w).alloc _).alloc _).setCells (.inr (Nat.le_refl _)) _ _
theorem zi5(w:World)(p b:Nat)(ks:List Nat)(lk ft:Int)(h:IsW w p b ks lk ft):Calls prog 123 #[.pointer (some ⟨p,0,none⟩)] w fun e w'=>e= .returned (.int .i64 ft)∧w=w':=by
 have hn:=zct w p b _ _ (h.st.cell 0);have hc:=h.st.cell 2;clear h;go_enter func123,ntmps123;go_wp2_with (go_at_call 224;refine hn.mono ?_;rintro e w' ⟨rfl,rfl⟩);go_ret;exact⟨rfl,rfl⟩
def setR(ks:List Nat)(i j k:Nat):List Nat:=(List.range ks.length).map fun x=>if i≤x∧x<j then k else ks[x]?.getD 0
theorem za2(ks:List Nat)(i j k:Nat):(setR ks i j k).length=ks.length:=by simp[setR]
theorem zdj(ks:List Nat)(i j k x:Nat)(hx:x<ks.length):(setR ks i j k)[x]?=some (if i≤x∧x<j then k else ks[x]?.getD 0):=by simp[setR,hx]
theorem zh1(ks:List Nat)(i k:Nat):setR ks i i k=ks:=by
 apply List.ext_getElem?;intro x;by_cases hx:x<ks.length
 ·rw[zdj _ _ _ _ _ hx,if_neg (by omega)];simp[hx]
 ·rw[List.getElem?_eq_none (by rw[za2];omega),List.getElem?_eq_none (by omega)]
theorem zq6(ks:List Nat)(i j k:Nat)(hij:i≤j):(setR ks i j k).set j k=setR ks i (j+1) k:=by
 apply List.ext_getElem?;intro x;by_cases hx:x<ks.length
 ·rw[List.getElem?_set,zdj _ _ _ _ _ hx,zdj _ _ _ _ _ hx,za2]
  by_cases h:j=x
  ·subst h;rw[if_pos rfl,if_pos hx,if_pos (by omega)]
  ·rw[if_neg h]
   by_cases h2:i≤x∧x<j
   ·rw[if_pos h2,if_pos (by omega)]
   ·rw[if_neg h2,if_neg (by omega)]
 ·rw[List.getElem?_eq_none (by rw[List.length_set,za2];omega),List.getElem?_eq_none (by rw[za2];omega)]
theorem zql(w:World)(p b:Nat)(ks:List Nat)(lk ft x y:Int)(i j k:Nat)(h:IsW w p b ks lk ft)(hij:i≤j)(hj:j≤ks.length)(hk:k≤8)(hx:x=4*i)(hy:y=4*j-4*i):Calls prog 163 #[.pointer (some ⟨p,0,none⟩),.int .i64 x,.int .i64 y,.int .i64 k] w fun e w'=>e= .returned (.int .i64 0)∧IsW w' p b (setR ks i j k) lk ft∧Fr [b] w w':=by
 have hn:=zct w p b _ _ (h.st.cell 0);have hf:=zez w p b ks.length ks.length x y h.len (h.st.cell 0);rw[show zc8 (4*ks.length) x y=true by unfold zc8;simp;omega]at hf;have hc:=h.st.cell 0;have hl:=h.len;have e1:(x %4 !=0)=false:=by simp;omega
 have e2:(y %4 !=0)=false:=by simp;omega
 have e3:x/4=i:=by omega
 have e4:(x+y)/4=j:=by omega
 have e5:0≤x:=by omega
 have e6:0≤y:=by omega
 have e7:x+y≤1048576:=by omega
 have hL:∀n:Nat,n=ks.length→w.cell? ⟨p,0,none⟩=some (.slice (some ⟨b,0,none⟩) n n):=fun n hn=>by rw[hn];exact hc
 clear hx hy hc;by_cases hi:ks.length=i
 ·have hij':i=j:=by omega
  subst hij';have hc:=hL i hi.symm;have hji:i-i=0:=by omega
  have hj':i≤262144:=by omega
  rw[show setR ks i i k=ks from zh1 _ _ _];have H:=hid h;clear hL hi h hl hij hj;go_enter func163,ntmps163;go_wp2_with (first|(go_at_call 224;refine hn.mono ?_;rintro e w' ⟨rfl,rfl⟩)|(go_at_call 232;refine hf.mono ?_;rintro e w' ⟨rfl,rfl⟩));go_loop [10,49] (fun _ v=>v= .int .i64 0) (fun _ _=>0);case atStart=>rfl
  case round=>
   obtain rfl:=hrel;go_wp2;go_ret;exact⟨rfl,H.out,Fr.refl _ _⟩
 ·have hc:=hL _ rfl
  clear hL;go_enter func163,ntmps163;go_wp2_with (first|(go_at_call 224;refine hn.mono ?_;rintro e w' ⟨rfl,rfl⟩)|(go_at_call 232;refine hf.mono ?_;rintro e w' ⟨rfl,rfl⟩));go_loopw [10,49] (fun _ v wr=>∃t:Nat,t≤j-i∧v= .int .i64 t∧IsW wr p b (setR ks i (i+t) k) lk ft∧Fr [b] w wr) (fun _ v _=>(j-i)-(intOf v).toNat);case atStart=>exact⟨0,Nat.zero_le _,rfl,by rw[Nat.add_zero,zh1];exact h,Fr.refl _ _⟩
  case round=>
   obtain⟨t,ht,rfl,hw,hfr⟩:=hrel;have hf1:=hw.row.frozen (i+t);have hc1:=hw.row.cell (i+t);by_cases hlt:t<j-i
   ·rw[bytes_get _ _ (by rw[za2];omega)]at hc1
    go_wp2;go_roundw;case rel=>exact⟨t+1,by omega,by go_num,by have:=hw.setRow (i+t) k hk;rw[zq6 _ _ _ _ (by omega)]at this;exact this,hfr.setCell (.inl (by simp)) _⟩
    case measure=>simp[intOf];omega
   ·go_wp2
    go_ret;have:t=j-i:=by omega
    subst this;rw[show i+(j-i)=j by omega]at hw;exact⟨rfl,hw,hfr⟩
def oneK(ks:List Nat)(i j:Nat):Bool:=(List.range (j-i)).all fun x=>ks[i+x]?.getD 0==ks[i]?.getD 0
theorem zdl(ks:List Nat)(i j:Nat)(h:∀x,x<j-i→ks[i+x]?.getD 0=ks[i]?.getD 0):oneK ks i j=true:=by
 simp only[oneK,List.all_eq_true,List.mem_range,beq_iff_eq];exact h
theorem zvq(ks:List Nat)(i j x:Nat)(hx:x<j-i)(h:ks[i+x]?.getD 0≠ks[i]?.getD 0):oneK ks i j=false:=by
 rw[←Bool.not_eq_true];simp only[oneK,List.all_eq_true,List.mem_range,beq_iff_eq];exact fun hh=>h (hh x hx)
def zf3(ks:List Nat)(i j:Nat):Nat:=if oneK ks i j then ks[i]?.getD 0 else 0
def zbd(ks:List Nat)(x y:Int):Nat:=
 if y<1∨zc8 (4*ks.length) x y=false then 0 else zf3 ks (x/4).toNat ((x+y+3)/4).toNat
theorem zwh(w:World)(p b:Nat)(ks:List Nat)(lk ft x y:Int)(h:IsW w p b ks lk ft)(hb:y<1∨zc8 (4*ks.length) x y=false):Calls prog 145 #[.pointer (some ⟨p,0,none⟩),.int .i64 x,.int .i64 y] w fun e w'=>e= .returned (.int .i64 0)∧w=w':=by
 have hn:=zct w p b _ _ (h.st.cell 0);have hf:=zez w p b ks.length ks.length x y h.len (h.st.cell 0);clear h;by_cases h1:y<1
 ·clear hb
  go_enter func145,ntmps145;go_wp2;go_step3;go_wp2_with (go_at_call 224;refine hn.mono ?_;rintro e w' ⟨rfl,rfl⟩);rw[Exit.noGoto_ret];go_ret;exact⟨rfl,rfl⟩
 ·rw[(hb.resolve_left h1)]at hf
  clear hb;go_enter func145,ntmps145;go_wp2;go_step3;go_wp2_with (first|(go_at_call 224;refine hn.mono ?_;rintro e w' ⟨rfl,rfl⟩)|(go_at_call 232;refine hf.mono ?_;rintro e w' ⟨rfl,rfl⟩));rw[Exit.noGoto_ret];go_ret;exact⟨rfl,rfl⟩
theorem zrz(w:World)(p b:Nat)(ks:List Nat)(lk ft x y:Int)(h:IsW w p b ks lk ft)(h1:1≤y)(hB:zc8 (4*ks.length) x y=true):Calls prog 145 #[.pointer (some ⟨p,0,none⟩),.int .i64 x,.int .i64 y] w fun e w'=>e= .returned (.int .i64 (zf3 ks (x/4).toNat ((x+y+3)/4).toNat))∧w=w':=by
 have hn:=zct w p b _ _ (h.st.cell 0);have hf:=zez w p b ks.length ks.length x y h.len (h.st.cell 0);rw[hB]at hf;have hB':0≤x∧0≤y∧x≤4*ks.length∧y≤4*ks.length-x:=by unfold zc8 at hB;simpa using hB
 obtain⟨g1,g2,g3,g4⟩:=hB';clear hB;obtain⟨i,hi⟩:∃i:Nat,x/4=i:=⟨(x/4).toNat,by omega⟩;obtain⟨j,hj⟩:∃j:Nat,(x+y+3)/4=j:=⟨((x+y+3)/4).toNat,by omega⟩;have hij:i<j:=by omega
 have hjl:j≤ks.length:=by omega
 rw[hi,hj];simp only[Int.toNat_natCast];have hl:=h.len;have hc:=h.st.cell 0;have hne:¬ks.length=i:=by omega
 have h63:x+y+4-1=x+y+3:=by omega
 have hg:=h.row.cell i;rw[bytes_get _ _ (by omega)]at hg;generalize hk0:ks[i]?.getD 0=k0 at hg;have K0:=hid hk0;have H:=hid h
 have hw8:(k0:Int)≤8:=by
  rw[←hk0,List.getElem?_eq_getElem (by omega)];have:=h.le ks[i] (List.getElem_mem _);simp;omega
 clear hk0 h;go_enter func145,ntmps145;go_wp2;go_step3;go_wp2_with (first|(go_at_call 224;refine hn.mono ?_;rintro e w' ⟨rfl,rfl⟩)|(go_at_call 232;refine hf.mono ?_;rintro e w' ⟨rfl,rfl⟩));go_step3;go_wp2;go_loop [8,42] (fun u v=>∃t:Nat,t≤j-i∧u= .int .u8 k0∧v= .int .i64 t∧∀x,x<t→ks[i+x]?.getD 0=k0) (fun _ v=>(j-i)-(intOf v).toNat);case atStart=>exact⟨0,Nat.zero_le _,rfl,rfl,fun _ h=>absurd h (by omega)⟩
 case round=>
  obtain⟨t,ht,rfl,rfl,hall⟩:=hrel;have HA:=hid hall;clear hall;by_cases hlt:t<j-i
  ·have hc1:=H.out.row.cell (i+t)
   rw[bytes_get _ _ (by omega)]at hc1;generalize hk1:ks[i+t]?.getD 0=k1 at hc1;have K1:=hid hk1;clear hk1;by_cases hkk:k1=k0
   ·subst hkk
    have e0:((k1:Int) !=k1)=false:=by simp
    go_wp2;go_round
    case rel=>exact⟨t+1,by omega,rfl,by go_num,fun x hx=>by
     by_cases hxt:x<t
     ·exact HA.out x hxt
     ·rw[show x=t by omega];exact K1.out⟩
    case measure=>simp[intOf];omega
   ·have e0:((k1:Int) !=k0)=true:=by simp;omega
    go_wp2;go_ret;exact⟨zjs (by rw[zf3,zvq ks i j t hlt (by rw[K1.out,K0.out];exact hkk)];rfl),rfl⟩
  ·go_wp2
   go_ret;have e:oneK ks i j=true:=zdl ks i j (fun x hx=>by rw[HA.out x (by omega)];exact K0.out.symm);exact⟨zjs (by rw[zf3,e,K0.out];rfl),rfl⟩
theorem zle(w:World)(p b:Nat)(ks:List Nat)(lk ft x y:Int)(h:IsW w p b ks lk ft):Calls prog 145 #[.pointer (some ⟨p,0,none⟩),.int .i64 x,.int .i64 y] w fun e w'=>e= .returned (.int .i64 (zbd ks x y))∧w=w':=by
 unfold zbd;by_cases hb:y<1∨zc8 (4*ks.length) x y=false
 ·rw[if_pos hb];exact zwh w p b ks lk ft x y h hb
 ·rw[if_neg hb]
  exact zrz w p b ks lk ft x y h (by omega) (by cases hf:zc8 (4*ks.length) x y<;>simp_all)
def mayL(ks:List Nat)(x wd k:Int):Bool:=decide ((wd=1∨wd=2∨wd=4∨wd=8)∧x %wd=0∧k≠0∧(zbd ks x wd:Int)=k)
theorem z0j(x:Int)(n:Nat):(x.tmod n=0)↔(x %n=0):=by
 rw[←Int.dvd_iff_tmod_eq_zero,←Int.dvd_iff_emod_eq_zero]
theorem z1m(w:World)(p b:Nat)(ks:List Nat)(lk ft x k:Int)(n:Nat)(hn:n=1∨n=2∨n=4∨n=8)(h:IsW w p b ks lk ft):Calls prog 276 #[.pointer (some ⟨p,0,none⟩),.int .i64 x,.int .i64 n,.int .i64 k] w fun e w'=>e= .returned (.bool (mayL ks x n k))∧w=w':=by
 have hk:=zle w p b ks lk ft x n h;have hb:bits .and .i64 (n:Int) ((n:Int)-1)=0:=by rcases hn with rfl|rfl|rfl|rfl<;>decide
 have hm:=z0j x n;have H:(n:Int)=1∨(n:Int)=2∨(n:Int)=4∨(n:Int)=8:=by omega
 by_cases ht:(x.tmod n !=0)=true
 ·go_enter func276,ntmps276
  go_wp2_with (go_at_call 145;refine hk.mono ?_;rintro e w' ⟨rfl,rfl⟩);go_ret;exact⟨zfg (fun hh=>by simp at ht;exact ht (hm.2 hh.2.1)),rfl⟩
 ·rw[Bool.not_eq_true]at ht
  by_cases hk0:k=0
  ·go_enter func276,ntmps276
   go_wp2_with (go_at_call 145;refine hk.mono ?_;rintro e w' ⟨rfl,rfl⟩);go_ret;exact⟨zfg (fun hh=>hh.2.2.1 hk0),rfl⟩
  ·have hkb:(k !=0)=true:=by simpa using hk0
   go_enter func276,ntmps276;go_wp2_with (go_at_call 145;refine hk.mono ?_;rintro e w' ⟨rfl,rfl⟩);go_ret;refine⟨?_,rfl⟩;have hx:x %n=0:=hm.1 (by simpa using ht)
   have:mayL ks x n k=((zbd ks x n:Int)==k):=by
    unfold mayL;rw[Bool.eq_iff_iff,decide_eq_true_iff,beq_iff_eq];exact⟨fun hh=>hh.2.2.2,fun hh=>⟨H,hx,hk0,hh⟩⟩
   rw[this];rfl
theorem z1v(w:World)(p b:Nat)(ks:List Nat)(lk ft x k n:Int)(hn:¬(n=1∨n=2∨n=4∨n=8)):Calls prog 276 #[.pointer (some ⟨p,0,none⟩),.int .i64 x,.int .i64 n,.int .i64 k] w fun e w'=>e= .returned (.bool (mayL ks x n k))∧w=w':=by
 have hr:mayL ks x n k=false:=decide_eq_false fun hh=>hn hh.1;rw[hr];by_cases h1:n<1
 ·go_enter func276,ntmps276
  go_wp2_with fail;go_ret;exact⟨rfl,rfl⟩
 by_cases h8:8<n
 ·go_enter func276,ntmps276
  go_wp2_with fail;go_ret;exact⟨rfl,rfl⟩
 have h9:n=3∨n=5∨n=6∨n=7:=by omega
 have hb:(bits .and .i64 n (n-1) !=0)=true:=by rcases h9 with rfl|rfl|rfl|rfl<;>decide
 clear hn hr h9;go_enter func276,ntmps276;go_wp2_with fail;go_ret;exact⟨rfl,rfl⟩
theorem zuq(w:World)(p b:Nat)(ks:List Nat)(lk ft x n k:Int)(h:IsW w p b ks lk ft):Calls prog 276 #[.pointer (some ⟨p,0,none⟩),.int .i64 x,.int .i64 n,.int .i64 k] w fun e w'=>e= .returned (.bool (mayL ks x n k))∧w=w':=by
 by_cases hn:n=1∨n=2∨n=4∨n=8
 ·obtain⟨m,rfl⟩:∃m:Nat,n=m:=⟨n.toNat,by omega⟩
  exact z1m w p b ks lk ft x k m (by omega) h
 ·exact z1v w p b ks lk ft x k n hn
theorem IsW.setLk{w:World}{p b:Nat}{ks:List Nat}{lk ft:Int}(h:IsW w p b ks lk ft)(v:Int):IsW (w.setCell ⟨p,1,none⟩ (.int .i64 v)) p b ks v ft:=
 ⟨h.st.set 1 _,h.row.far (p:=⟨p,1,none⟩) h.ne.symm _,h.len,h.le⟩
theorem IsW.setFt{w:World}{p b:Nat}{ks:List Nat}{lk ft:Int}(h:IsW w p b ks lk ft)(v:Int):IsW (w.setCell ⟨p,2,none⟩ (.int .i64 v)) p b ks lk v:=
 ⟨h.st.set 2 _,h.row.far (p:=⟨p,2,none⟩) h.ne.symm _,h.len,h.le⟩
theorem zr7(w:World)(p b:Nat)(ks:List Nat)(lk ft x n k:Int)(h:IsW w p b ks lk ft):Calls prog 222 #[.pointer (some ⟨p,0,none⟩),.int .i64 x,.int .i64 n,.int .i64 k] w fun e w'=>
   e= .returned (.bool (mayL ks x n k))∧(∃lk',IsW w' p b ks lk' (if mayL ks x n k then ft else wrap64 (ft+1)))∧Fr [p] w w':=by
 have hn:=zct w p b _ _ (h.st.cell 0);have hc:=h.st.cell 1;have hf:=h.st.frozen 1;have hlk:=IntWalk.i64_left (lk+1);have H1:=h.setLk (wrap64 (lk+1));have hft:=IntWalk.i64_left (ft+1);have H2:=(h.setLk (wrap64 (lk+1))).setFt (wrap64 (ft+1));generalize wrap64 (lk+1)=lk' at*;generalize wrap64 (ft+1)=ft' at*;have hm:=zuq _ p b ks _ _ x n k H1;have hc2:=h.st.cell 2;have hf2:=h.st.frozen 2;have HF1:Fr [p] w (w.setCell ⟨p,1,none⟩ (.int .i64 lk')):=(Fr.refl _ _).setCell (.inl (by simp)) _;have HF2:Fr [p] w ((w.setCell ⟨p,1,none⟩ (.int .i64 lk')).setCell ⟨p,2,none⟩ (.int .i64 ft')):=((Fr.refl _ _).setCell (.inl (by simp)) _).setCell (.inl (by simp)) _;clear h;cases hmm:mayL ks x n k
 ·rw[hmm]at hm
  clear hmm;go_enter func222,ntmps222;go_wp2_with (first|(go_at_call 224;refine hn.mono ?_;rintro e w' ⟨rfl,rfl⟩)|(go_at_call 276;refine hm.mono ?_;rintro e w' ⟨rfl,rfl⟩));go_ret;exact⟨rfl,⟨_,H2⟩,HF2⟩
 ·rw[hmm]at hm
  clear hmm;go_enter func222,ntmps222;go_wp2_with (first|(go_at_call 224;refine hn.mono ?_;rintro e w' ⟨rfl,rfl⟩)|(go_at_call 276;refine hm.mono ?_;rintro e w' ⟨rfl,rfl⟩));go_ret;exact⟨rfl,⟨_,H1⟩,HF1⟩
def zdg(v:Nat)(w:Int):Bool:=widB w&&decide (v<256^w.toNat)
theorem zkv(w:World)(v:Nat)(hv:v<18446744073709551616)(n:Int):Calls prog 160 #[.int .u64 v,.int .i64 n] w fun e w'=>e= .returned (.bool (zdg v n))∧Fr [] w w':=by
 have hw:=fun w=>zhs w n;by_cases h8:n=8
 ·subst h8
  have e:zdg v 8=true:=by
   simp[zdg,widB];exact hv
  rw[e];clear e hw;go_enter func160,ntmps160;go_wp2_with fail;go_ret;exact⟨rfl,Fr.refl _ _⟩
 have b8:(n==8)=false:=by simpa using h8
 unfold zdg;rcases hB:widB n with _|_
 ·rw[hB]at hw
  rw[Bool.false_and];clear hB h8;go_enter func160,ntmps160;go_wp2_with (go_at_call 241;with_reducible refine(hw _).mono ?_;rintro e w' ⟨rfl,rfl⟩);go_ret;exact⟨rfl,Fr.refl _ _⟩
 ·rw[hB]at hw
  obtain⟨k,rfl,hk⟩:=zc5 hB;have hk8:k≤7:=by omega
  have hp:(2:Nat)^(8*k)=256^k:=by rw[Nat.pow_mul]
  have hq:((v:Int)/2^(8*k)==0)=decide (v<256^k):=by
   have e1:((v:Int)/2^(8*k))=((v/256^k:Nat):Int):=by
    rw[←hp];push_cast;rfl
   rw[e1,Bool.eq_iff_iff,beq_iff_eq,decide_eq_true_eq];rw[show((v/256^k:Nat):Int)=0↔v/256^k=0 by omega];rw[Nat.div_eq_zero_iff];have:0<256^k:=Nat.pow_pos (by decide);omega
  rw[Bool.true_and,Int.toNat_natCast];cases hd:decide (v<256^k)
  all_goals
   rw[hd]at hq
   have hq':((v/256^k:Nat):Int)=(v:Int)/2^(8*k):=by
    rw[←hp];push_cast;rfl
   clear hB h8 hd hk hp hq';go_enter func160,ntmps160;go_wp2_with (go_at_call 241;with_reducible refine(hw _).mono ?_;rintro e w' ⟨rfl,rfl⟩);go_ret;exact⟨rfl,Fr.refl _ _⟩
def zff(n:Int):Bool:=decide (16≤n∧n≤1048576∧n %16=0)
theorem zr1(w:World)(n:Int):Calls prog 157 #[.int .i64 n] w fun e w'=>e= .returned (.bool (zff n))∧w'=w:=by
 by_cases h1:16≤n
 ·by_cases h2:n≤1048576
  ·have b1:decide (16≤n)=true:=by simpa using h1
   have b2:decide (n≤1048576)=true:=by simpa using h2
   have e:zff n=(n %16==0):=by
    rw[zff,Bool.eq_iff_iff,decide_eq_true_eq,beq_iff_eq];omega
   rw[e];clear e;go_enter func157,ntmps157;go_wp2_with fail;go_ret;exact⟨rfl,rfl⟩
  ·have b1:decide (16≤n)=true:=by simpa using h1
   have b2:decide (n≤1048576)=false:=by simpa using h2
   have e:zff n=false:=by simp[zff];omega
   rw[e];clear e;go_enter func157,ntmps157;go_wp2_with fail;go_ret;exact⟨rfl,rfl⟩
 ·have b1:decide (16≤n)=false:=by simpa using h1
  have e:zff n=false:=by simp[zff];omega
  rw[e];clear e;go_enter func157,ntmps157;go_wp2_with fail;go_ret;exact⟨rfl,rfl⟩
theorem zl2(w:World)(p:Nat)(b n c:Nat)(h:w.cell? ⟨p,0,none⟩=some (.slice (some ⟨b,0,none⟩) n c)):Calls prog 129 #[.pointer (some ⟨p,0,none⟩)] w fun e w'=>e= .returned (.bool false)∧w'=w:=by
 have e1:=fun(w:World)=>Lib.run_eql_slice_nil (P:=prog) w 44 5 (some ⟨b,0,none⟩) n c 0 0 underlying44;go_enter func129,ntmps129;go_wp2;go_ret;exact⟨rfl,rfl⟩
theorem IsA.none{w:World}{p g cap:Nat}{l:List Nat}(h:IsA w p g cap l):Calls prog 129 #[.pointer (some ⟨p,0,none⟩)] w fun e w'=>e= .returned (.bool false)∧w'=w:=
 zl2 w p g l.length cap (h.st.cell 0)
theorem zrn(w:World)(n:Nat)(h:zff n=true):Calls prog 73 #[.int .i64 n] w fun e w'=>∃p g,e= .returned (.pointer (some ⟨p,0,none⟩))∧IsA w' p g n (List.replicate n 0)∧w.heap.size≤p∧w.heap.size≤g∧Fr [] w w':=by
 have hm:=fun w=>zr1 w n;have hn:n≤1048576:=by simp[zff]at h;omega
 rw[h]at hm;have hmk:=zb8 (P:=prog) 44 5 underlying44 zis .i64 .i64 n (by omega);clear h;go_enter func73,ntmps73;go_wp2_with (go_at_call 157;with_reducible refine(hm _).mono ?_;rintro e w' ⟨rfl,rfl⟩);go_ret;refine⟨w'.heap.size+1,w'.heap.size,rfl,⟨?_,?_,fun b hb=>by rw[List.eq_of_mem_replicate hb];omega,by simp;omega⟩,by omega,by omega,((Fr.refl [] _).alloc _).alloc _⟩
 ·have:=Blk.new (w'.alloc (.cells (bytes (List.replicate n 0)) 5)) 187 #[.slice (some ⟨w'.heap.size,0,none⟩) n n]
  rw[World.size_alloc]at this;rw[List.length_replicate];exact this
 ·have:=(RowB.of (Blk.new w' 5 (bytes (List.replicate n 0)))).alloc (.cells #[.slice (some ⟨w'.heap.size,0,none⟩) n n] 187)
  rw[List.length_replicate]at this;exact this
theorem zrt(w:World)(p g cap:Nat)(l:List Nat)(h:IsA w p g cap l)(x wd:Int):Calls prog 223 #[.pointer (some ⟨p,0,none⟩),.int .i64 x,.int .i64 wd] w fun e w'=>e= .returned (.tuple #[.int .u64 (ldV l x wd),.int .i64 (zax l.length x wd)])∧w'=w:=by
 have hn:=h.none;have hc:=h.st.cell 0;have hl:=fun W (hb:Byt W (some ⟨g,0,none⟩) l)=>zem W (some ⟨g,0,none⟩) cap l hb x wd;have hb:=h.byt;generalize ldV l x wd=v at*;generalize zax l.length x wd=e at*;simp at hc;have HB:=hid hb;clear hb h;go_enter func223,ntmps223;go_wp2_with fail;with_reducible refine hn.mono ?_
 rintro e w' ⟨rfl,rfl⟩;go_wp2_with fail;with_reducible refine(hl _ HB.out).mono ?_
 rintro e w' ⟨rfl,rfl⟩;go_wp2_with fail;go_ret2;exact⟨rfl,rfl⟩
def putE(l:List Nat)(x wd:Int)(v:Nat):Nat:=if zax l.length x wd≠2∧zdg v wd=false then 2 else zax l.length x wd
def putL(l:List Nat)(x wd:Int)(v:Nat):List Nat:=if putE l x wd v=0 then zd1 l x.toNat v wd.toNat else l
theorem zsj(w:World)(p g cap:Nat)(l:List Nat)(h:IsA w p g cap l)(x wd:Int)(v:Nat)(hv:v<18446744073709551616)(hE:putE l x wd v≠0):Calls prog 75 #[.pointer (some ⟨p,0,none⟩),.int .i64 x,.int .i64 wd,.int .u64 v] w fun e w'=>e= .returned (.int .i64 (putE l x wd v))∧Fr [] w w':=by
 have hn:=h.none;have hc:=h.st.cell 0;have hl:=zem w (some ⟨g,0,none⟩) cap l h.byt x wd;have hf:=fun w=>zkv w v hv wd;unfold putE at hE⊢;generalize ldV l x wd=r at*;generalize zax l.length x wd=e at*;simp at hc;clear h;generalize l.length=n at*;by_cases h2:e=2
 ·subst h2
  rw[if_neg (by simp)];clear hE hf;go_enter func75,ntmps75;go_wp2_with fail;with_reducible refine hn.mono ?_
  rintro e w' ⟨rfl,rfl⟩;go_wp2_with fail;with_reducible refine hl.mono ?_
  rintro e w' ⟨rfl,rfl⟩;go_wp2_with fail;go_ret;exact⟨rfl,Fr.refl _ _⟩
 ·have b2:((e:Int) !=2)=true:=by simp;omega
  generalize zdg v wd=f at*;cases f
  ·rw[if_pos ⟨h2,rfl⟩]
   clear hE h2;go_enter func75,ntmps75;go_wp2_with fail;with_reducible refine hn.mono ?_
   rintro e w' ⟨rfl,rfl⟩;go_wp2_with fail;with_reducible refine hl.mono ?_
   rintro e w' ⟨rfl,rfl⟩;go_wp2_with fail;with_reducible refine(hf _).mono ?_
   rintro e w2 ⟨rfl,f2⟩;go_wp2_with fail;go_ret;exact⟨rfl,f2⟩
  ·rw[if_neg (by simp)]at hE⊢
   have b0:((e:Int) !=0)=true:=by simp;omega
   clear hE h2;go_enter func75,ntmps75;go_wp2_with fail;with_reducible refine hn.mono ?_
   rintro e w' ⟨rfl,rfl⟩;go_wp2_with fail;with_reducible refine hl.mono ?_
   rintro e w' ⟨rfl,rfl⟩;go_wp2_with fail;with_reducible refine(hf _).mono ?_
   rintro e w2 ⟨rfl,f2⟩;go_wp2_with fail;go_ret;exact⟨rfl,f2⟩
theorem zw4(n j:Nat):IntKind.u8.wrap ((n:Int)/2^(8*j))=((n/256^j %256:Nat):Int):=by
 have:IntKind.u8.wrap ((n:Int)/2^(8*j))=((n:Int)/2^(8*j)) %256:=rfl;rw[this,show(256:Nat)^j=2^(8*j)by rw[Nat.pow_mul]];rw[Int.natCast_emod,Int.natCast_ediv,Int.natCast_pow];rfl
theorem zu3(w:World)(p g cap:Nat)(l:List Nat)(h:IsA w p g cap l)(x k v:Nat)(hk:k≤8)(hx:x+k≤l.length)(hv:v<18446744073709551616)(r:Nat)
  (hl:Calls prog 159 #[.slice (some ⟨g,0,none⟩) l.length cap,.int .i64 x,.int .i64 k] w fun e w'=>e= .returned (.tuple #[.int .u64 r,.int .i64 0])∧w'=w) (hf:zdg v k=true):
  Calls prog 75 #[.pointer (some ⟨p,0,none⟩),.int .i64 x,.int .i64 k,.int .u64 v] w fun e w'=>e= .returned (.int .i64 0)∧IsA w' p g cap (zd1 l x v k)∧Fr [g] w w':=by
 have hn:=h.none;have hc:=h.st.cell 0;have hft:=fun w=>zkv w v hv k;rw[hf]at hft;have HA:=hid h;have hlen:=h.len;simp at hc;generalize hln:l.length=n at*;have HLN:=hid hln;clear h hf hln;go_enter func75,ntmps75;go_wp2_with fail;with_reducible refine hn.mono ?_
 rintro e w' ⟨rfl,rfl⟩;go_wp2_with fail;with_reducible refine hl.mono ?_
 rintro e w' ⟨rfl,rfl⟩;go_wp2_with fail;with_reducible refine(hft _).mono ?_
 rintro e w2 ⟨rfl,f2⟩;have hA2:=HA.out.fr f2 (by simp) (by simp);have hF2:=f2;clear hn hl hft hc f2;go_wp2_with fail;go_loopw [36] (fun u W=>∃j:Nat,j≤k∧u= .int .i64 j∧IsA W p g cap (zd1 l x v j)∧Fr [g] w' W) (fun u _=>k-(intOf u).toNat);case atStart=>exact⟨0,by omega,rfl,hA2,hF2.mono (fun _ hm=>by simp at hm)⟩
 case round=>
  clear hA2 hF2;obtain⟨j,hj,rfl,hA,hF⟩:=hrel;by_cases hlt:j<k
  ·have hs:=HA.out.st
   have hst:=hA.st.cell 0;simp at hst;rw[zbo,HLN.out]at hst;have hi:x+j<n:=by omega
   have hU:=zw4 v j;have hgc:=hA.row.cell (x+j) (by rw[zbo,HLN.out];exact hi);have hgf:=hA.row.frozen (x+j);generalize(zd1 l x v j)[x+j]?.getD 0=old at*;have h64:j≤7:=by omega
   have HS:=hid (show zd1 l x v (j+1)=(zd1 l x v j).set (x+j) (v/256^j %256)from rfl);have HA2:=hid hA;have HF2:=hid hF;clear hs hA hF;go_wp2_with fail;go_region;go_wp2_with fail;have hv2:((v:Int)/256^j %256)=((v/256^j %256:Nat):Int):=by rw[Int.natCast_emod,Int.natCast_ediv,Int.natCast_pow];rfl
   rw[hv2];refine⟨⟨j+1,by omega,by go_num,?_,(HF2.out.setCell (.inl (by simp)) _).drew⟩,by simp[intOf];omega⟩;have:=HA2.out.set (x+j) (v/256^j %256) (by rw[zbo,HLN.out];exact hi) (Nat.mod_lt _ (by decide));rw[HS.out];exact this.fr (S:= []) (Fr.refl _ _).drew (by simp) (by simp)
  ·obtain rfl:j=k:=by omega
   go_wp2_with fail;go_ret;exact⟨rfl,hA,hF⟩
theorem zeq(w:World)(p g cap:Nat)(l:List Nat)(h:IsA w p g cap l)(x wd:Int)(v:Nat)(hv:v<18446744073709551616):Calls prog 75 #[.pointer (some ⟨p,0,none⟩),.int .i64 x,.int .i64 wd,.int .u64 v] w fun e w'=>e= .returned (.int .i64 (putE l x wd v))∧IsA w' p g cap (putL l x wd v)∧Fr [g] w w':=by
 by_cases hE:putE l x wd v=0
 ·have hE2:=hE
  unfold putE at hE2
  have hP:zax l.length x wd=0∧zdg v wd=true:=by
   by_cases hc:zax l.length x wd≠2∧zdg v wd=false
   ·rw[if_pos hc]at hE2;omega
   ·rw[if_neg hc]at hE2
    refine⟨hE2,?_⟩;rcases e:zdg v wd with _|_
    ·exact absurd ⟨by omega,e⟩ hc
    ·rfl
  have hl:=zem w (some ⟨g,0,none⟩) cap l h.byt x wd;rw[hP.1]at hl;have hp:=hP.1;unfold zax at hp;rcases hB:widB wd with _|_
  ·rw[hB]at hp;simp at hp
  ·obtain⟨k,rfl,hk⟩:=zc5 hB
   rw[hB]at hp;simp only[Bool.true_eq_false,if_false]at hp;by_cases h1:x<0∨(l.length:Int)<x∨(l.length:Int)-x<k
   ·rw[if_pos h1]at hp;simp at hp
   ·obtain⟨y,rfl⟩:∃y:Nat,x=y:=⟨x.toNat,by omega⟩
    unfold putL;rw[hE,if_pos rfl,Int.toNat_natCast,Int.toNat_natCast];exact zu3 w p g cap l h y k v (by omega) (by omega) hv _ hl hP.2
 ·unfold putL
  rw[if_neg hE];exact(zsj w p g cap l h x wd v hv hE).mono fun e w' ⟨he,hf⟩=>⟨he,h.fr hf (by simp) (by simp),hf.mono (fun _ hm=>by simp at hm)⟩
def zh4(w:World)(l:List Nat)(nil:Bool)(e:Ending)(w':World):Prop:=
 ∃v,e= .returned v∧OwnB w' w.heap.size v l∧(nil=true→v= .slice none 0 0)∧(nil=false→v≠ .slice none 0 0)∧Fr [] w w'
theorem zn6(w:World)(a:Option Addr)(c:Nat)(l:List Nat)(h:Byt w a l):Calls prog 119 #[.slice a l.length c] w (zh4 w l a.isNone):=by
 have e1:=fun(w:World) (a:Option Addr) (n:Nat)=>Lib.run_eql_slice_nil (P:=prog) w 44 5 a n c 0 0 underlying44;have hlen:=h.len;rcases a with _|ad
 ·have hl:l= [] :=by
   rcases l with _|⟨x,l⟩
   ·rfl
   ·obtain⟨g,o,e,_⟩:=h.at_ 0 (by simp)
    cases e
  subst hl;have HP:=hid (show zh4 w [] (none:Option Addr).isNone (.returned (.slice none 0 0)) w from⟨_,rfl,OwnB.nil _ _,fun _=>rfl,fun h=>by simp at h,Fr.refl _ _⟩);generalize zh4 w [] (none:Option Addr).isNone=P at*;clear h;go_enter func119,ntmps119;go_wp2_with fail;exact HP.out
 ·have HP:=hid (show∀v w',OwnB w' w.heap.size v l→v≠ .slice none 0 0→Fr [] w w'→zh4 w l (some ad:Option Addr).isNone (.returned v) w' from fun v w' h1 h2 h3=>⟨v,rfl,h1,fun h=>by simp at h,fun _=>h2,h3⟩)
  generalize zh4 w l (some ad:Option Addr).isNone=P at*;have HB:=hid h;have hO:OwnB (w.alloc (.cells #[] 5)) w.heap.size (.slice (some ⟨w.heap.size,0,none⟩) 0 0) [] :=OwnB.made (Nat.le_refl _) (Blk.new w _ _) (by simp);have hby:=h.fr (S:= []) ((Fr.refl [] w).alloc (.cells #[] 5)) (by simp);generalize hn:l.length=n at*;have HN:=hid hn;clear h hn;have e2:=fun w n=>e1 w (some ad) n;simp only[Option.isNone]at e2;clear e1;go_enter func119,ntmps119;go_wp2_with (at_builtin;refine zf4 rfl _ _ rfl rfl w.heap.size _ [] rfl hO _ _ _ l HN.out rfl hby (by rw[HN.out];simpa using hlen) (by simp) ?_;intro v1 W1 hO1 hgr1 hob1);rw[List.nil_append]at hO1;refine HP.out _ _ hO1 ?_ (hO.fr hgr1 ((Fr.refl [] w).alloc _) (Nat.le_refl _));obtain⟨h1,⟨h2,h3⟩|⟨g,cap,cur,h2,_⟩⟩:=hO1
  ·rw[h2]at hob1
   rcases hob1 with h|h<;>cases h
  ·rw[h2]
   intro h;cases h
theorem OwnB.slice{w:World}{base:Nat}{v:Value}{l:List Nat}(h:OwnB w base v l)(hv:v≠ .slice none 0 0):∃g cap,v= .slice (some ⟨g,0,none⟩) l.length cap∧base≤g∧RowB w g cap l:=by
 obtain⟨h1,⟨h2,h3⟩|⟨g,cap,cur,rfl,hg,hh,hc,hm,hs,ht⟩⟩:=h
 ·exact absurd h2 hv
 ·refine⟨g,cap,rfl,hg,cur,hh,by simpa using hs,by simpa using hc,fun i hi=> ?_⟩
  have h3:(cur.toList.take (l.length*1))[i]?=(zaj l)[i]?:=by rw[ht]
  rw[List.getElem?_take_of_lt (by omega),Array.getElem?_toList]at h3;rw[h3,zaj,List.getElem?_map,List.getElem?_eq_getElem hi];rfl
theorem zq2(w:World)(p g cap:Nat)(l:List Nat)(h:IsA w p g cap l):Calls prog 225 #[.pointer (some ⟨p,0,none⟩)] w fun e w'=>e= .returned (.int .i64 l.length)∧w'=w:=by
 have hn:=h.none;have hc:=h.st.cell 0;simp at hc;generalize l.length=n at*;clear h;go_enter func225,ntmps225;go_wp2_with fail;with_reducible refine hn.mono ?_
 rintro e w' ⟨rfl,rfl⟩;go_wp2_with fail;go_ret;exact⟨rfl,rfl⟩
def zav(x m:Nat):Nat:=if m=0 then 0 else x
theorem zeu(w:World)(p g cap:Nat)(l:List Nat)(h:IsA w p g cap l)(x m:Nat)(hE:x+m≤l.length):Calls prog 226 #[.pointer (some ⟨p,0,none⟩),.int .i64 x,.int .i64 m] w fun e w'=>e= .returned (.tuple #[.slice (some ⟨g,zav x m,none⟩) m m,.int .i64 0])∧w'=w:=by
 have hn:=h.none;have hc:=h.st.cell 0;have hlen:=h.len;have hcap:=h.row.le;simp at hc;unfold zav;generalize l.length=n at*;clear h;have b1:decide ((x:Int)<0)=false:=by simp
 have b2:decide ((m:Int)<0)=false:=by simp
 have b3':decide (n<x)=false:=by simp;omega
 have b4:decide ((n:Int)-x<m)=false:=by simp;omega
 go_enter func226,ntmps226;go_wp2_with fail;with_reducible refine hn.mono ?_
 rintro e w' ⟨rfl,rfl⟩;go_wp2_with fail
 all_goals
  go_ret2;exact⟨rfl,rfl⟩
def spl(l:List Nat)(o:Nat)(m:List Nat):List Nat:=l.take o++m++l.drop (o+m.length)
theorem zb2(l:List Nat)(o:Nat)(m:List Nat)(h:o+m.length≤l.length):(spl l o m).length=l.length:=by simp[spl];omega
theorem zhg(l:List Nat)(o:Nat)(m:List Nat)(h:o+m.length≤l.length)(i:Nat):(spl l o m)[i]?.getD 0=if o≤i∧i<o+m.length then m[i-o]?.getD 0 else l[i]?.getD 0:=by
 unfold spl;by_cases h1:i<o
 ·rw[if_neg (by omega),List.getElem?_append_left (by simp;omega),List.getElem?_append_left (by simp;omega),List.getElem?_take_of_lt h1]
 ·by_cases h2:i<o+m.length
  ·rw[if_pos (by omega),List.getElem?_append_left (by simp;omega),List.getElem?_append_right (by simp;omega)]
   simp only[List.length_take];rw[Nat.min_eq_left (by omega)]
  ·rw[if_neg (by omega),List.getElem?_append_right (by simp;omega),List.getElem?_drop]
   congr 2;simp only[List.length_append,List.length_take];omega
theorem zse(l:List Nat)(o:Nat)(m:List Nat)(hl:∀b∈l,b<256)(hm:∀b∈m,b<256):∀b∈spl l o m,b<256:=by
 intro b hb;unfold spl at hb;rcases List.mem_append.1 hb with hb|hb
 ·rcases List.mem_append.1 hb with hb|hb
  ·exact hl b (List.mem_of_mem_take hb)
  ·exact hm b hb
 ·exact hl b (List.mem_of_mem_drop hb)
theorem RowB.setCells{w:World}{g cap:Nat}{l:List Nat}(h:RowB w g cap l)(o:Nat)(m:List Nat)(ho:o+m.length≤l.length):RowB (w.setCells g o (zaj m)) g cap (spl l o m):=by
 obtain⟨cur,hb,hs,hl,hc⟩:=h;refine⟨_,hb.setCells (zaj m) o,by rw[zig,hs],by rw[zb2 _ _ _ ho];exact hl,fun i hi=> ?_⟩;rw[zb2 _ _ _ ho]at hi;have hcl:(zaj m).length=m.length:=by simp[zaj]
 rw[zha _ _ _ (by rw[hcl];omega),hcl,zhg _ _ _ ho];by_cases h1:o≤i∧i<o+m.length
 ·rw[if_pos h1,if_pos h1,zaj,List.getElem?_map,List.getElem?_eq_getElem (by omega)];rfl
 ·rw[if_neg h1,if_neg h1];exact hc i hi
theorem IsA.setCells{w:World}{p g cap:Nat}{l:List Nat}(h:IsA w p g cap l)(o:Nat)(m:List Nat)(ho:o+m.length≤l.length)(hm:∀b∈m,b<256):IsA (w.setCells g o (zaj m)) p g cap (spl l o m):=by
 refine⟨?_,h.row.setCells o m ho,zse l o m h.byte hm,by rw[zb2 _ _ _ ho];exact h.len⟩;rw[zb2 _ _ _ ho];exact h.st.setCells_far h.ne _ _
theorem znc(w:World)(p g cap:Nat)(l:List Nat)(h:IsA w p g cap l)(x m:Nat)(hE:x+m≤l.length):Calls prog 128 #[.pointer (some ⟨p,0,none⟩),.int .i64 x,.int .i64 m] w fun e w'=>e= .returned (.tuple #[.slice (some ⟨g,zav x m,none⟩) m m,.int .i64 0])∧w'=w:=by
 have hp:=zeu w p g cap l h x m hE;clear h;generalize zav x m=o at*;go_enter func128,ntmps128;go_wp2_with fail;with_reducible refine hp.mono ?_
 rintro e w' ⟨rfl,rfl⟩;go_wp2_with fail;go_ret2;exact⟨rfl,rfl⟩
theorem IsA.part{w:World}{p g cap:Nat}{l:List Nat}(h:IsA w p g cap l)(x m:Nat)(hE:x+m≤l.length):Byt w (some ⟨g,zav x m,Option.none⟩) ((l.drop x).take m):=by
 refine⟨fun i hi=> ?_,fun b hb=>h.byte b (List.mem_of_mem_drop (List.mem_of_mem_take hb)),by have:=h.len;simp;omega⟩;simp at hi;refine⟨g,zav x m,rfl,?_,h.row.lt⟩;have:zav x m=x:=by unfold zav;rw[if_neg (by omega)]
 rw[this,h.row.cell _ (by omega),List.getElem?_take_of_lt (by omega),List.getElem?_drop]
def zmw(w:World)(l:List Nat)(v:Value)(w':World):Prop:= ∃g cap,v= .slice (some ⟨g,0,none⟩) l.length cap∧w.heap.size≤g∧RowB w' g cap l∧Fr [] w w'
theorem zl0(w:World)(ad:Addr)(c:Nat)(l:List Nat)(h:Byt w (some ad) l):Calls prog 119 #[.slice (some ad) l.length c] w fun e w'=>∃v,e= .returned v∧zmw w l v w':=
 (zn6 w (some ad) c l h).mono fun e w' ⟨v,he,hO,_,hv,hf⟩=>by
  obtain⟨g,cap,e1,hg,hr⟩:=hO.slice (hv rfl);exact⟨v,he,g,cap,e1,hg,hr,hf⟩
theorem zpv(w:World)(p g cap:Nat)(l:List Nat)(h:IsA w p g cap l)(x m:Nat)(hE:x+m≤l.length):Calls prog 221 #[.pointer (some ⟨p,0,none⟩),.int .i64 x,.int .i64 m] w fun e w'=>∃v,e= .returned (.tuple #[v,.int .i64 0])∧zmw w ((l.drop x).take m) v w':=by
 have hp:=zeu w p g cap l h x m hE;have hb:=h.part x m hE;have hl:((l.drop x).take m).length=m:=by simp;omega
 have hc:=zl0 w ⟨g,zav x m,none⟩ m _ hb;rw[hl]at hc;generalize zav x m=o at*;generalize(l.drop x).take m=ms at*;clear h hb hl;go_enter func221,ntmps221;go_wp2_with fail;with_reducible refine hp.mono ?_
 rintro e w' ⟨rfl,rfl⟩;go_wp2_with fail;with_reducible refine hc.mono ?_
 rintro e w1 ⟨v,rfl,f1⟩;go_wp2_with fail;go_ret2;exact⟨v,rfl,f1⟩
theorem zqr(w:World):(zeroValue 5).run prog w= .ok (.int .u8 0) w:=by kernel_rfl
theorem z1i(w:World)(p g cap:Nat)(l:List Nat)(h:IsA w p g cap l)(x m:Nat)(hE:x+m≤l.length):Calls prog 246 #[.slice (some ⟨g,zav x m,none⟩) m m] w fun e w'=>e= .returned (.tuple #[])∧IsA w' p g cap (spl l x (List.replicate m 0))∧Fr [g] w w':=by
 have hw:IsA (w.setCells g (zav x m) (List.replicate m (.int .u8 0))) p g cap (spl l x (List.replicate m 0)):=by
  have:=h.setCells (zav x m) (List.replicate m 0) (by unfold zav;rw[List.length_replicate];split<;>omega) (by simp);have e:zaj (List.replicate m 0)=List.replicate m (.int .u8 0):=by simp[zaj]
  rw[e]at this
  have e2:spl l (zav x m) (List.replicate m 0)=spl l x (List.replicate m 0):=by
   unfold zav;split
   ·next hm=>subst hm;simp[spl]
   ·rfl
  rw[e2]at this;exact this
 have hf:Fr [g] w (w.setCells g (zav x m) (List.replicate m (.int .u8 0))):=(Fr.refl _ _).setCells (.inl (by simp)) _ _;have hlen:=h.len
 have hcl:∀ty,(Builtin.clear_ #[44] ty #[.slice (some ⟨g,zav x m,none⟩) m m]).run prog w= .ok (.tuple #[]) (w.setCells g (zav x m) (List.replicate m (.int .u8 0))):=fun ty=>by
  by_cases h0:m=0
  ·subst h0
   simp[Builtin.clear_,run_underlying underlying44,World.setCells]
  ·exact Lib.run_clear_slice w 44 5 ty (.int .u8 0) underlying44 zqr rfl rfl g (zav x m) m m (by omega)
    (fun j hj=>by rw[h.row.cell (zav x m+j) (by unfold zav;split<;>omega)];rfl) (fun j _=>h.row.frozen _)
 generalize spl l x (List.replicate m 0)=l' at*;generalize zav x m=o at*;have HW:=hid hw;have HF:=hid hf;generalize w.setCells g o (List.replicate m (.int .u8 0))=w1 at*;clear h hw hf;go_enter func246,ntmps246;go_wp2_with fail;go_end0;exact⟨rfl,HW.out,HF.out⟩
theorem znq(w:World)(p g cap:Nat)(l:List Nat)(h:IsA w p g cap l)(x m:Nat)(hE:x+m≤l.length):Calls prog 167 #[.pointer (some ⟨p,0,none⟩),.int .i64 x,.int .i64 m] w fun e w'=>e= .returned (.int .i64 0)∧IsA w' p g cap (spl l x (List.replicate m 0))∧Fr [g] w w':=by
 have hp:=zeu w p g cap l h x m hE;have hz:=z1i w p g cap l h x m hE;generalize spl l x (List.replicate m 0)=l' at*;generalize zav x m=o at*;clear h
 have hw:Calls prog 245 #[.pointer (some ⟨p,0,none⟩),.int .i64 x,.int .i64 m,.func (.func 246) #[] #[]] w fun e w'=>e= .returned (.int .i64 0)∧IsA w' p g cap l'∧Fr [g] w w':=by
  go_enter func245,ntmps245;go_wp2_with fail;with_reducible refine hp.mono ?_
  rintro e w' ⟨rfl,rfl⟩;go_wp2_with fail;with_reducible refine hz.mono ?_
  rintro e w1 ⟨rfl,h1,f1⟩;go_wp2_with fail;go_ret;exact⟨rfl,h1,f1⟩
 go_enter func167,ntmps167;go_wp2_with fail;with_reducible refine hw.mono ?_
 rintro e w1 ⟨rfl,h1,f1⟩;go_wp2_with fail;go_ret;exact⟨rfl,h1,f1⟩
theorem zra(w:World)(p g cap:Nat)(l:List Nat)(h:IsA w p g cap l)(x c:Nat)(a:Option Addr)(m:List Nat)(hm:Byt w a m)(hE:x+m.length≤l.length):Calls prog 250 #[.slice a m.length c,.slice (some ⟨g,zav x m.length,none⟩) m.length m.length] w fun e w'=>e= .returned (.tuple #[])∧IsA w' p g cap (spl l x m)∧Fr [g] w w':=by
 have hmin:Nat.min m.length m.length=m.length:=Nat.min_self _;have hlen:=h.len;by_cases h0:m= []
 ·subst h0
  have e:spl l x [] =l:=by simp[spl]
  rw[e];have hcp:∀ty,(Builtin.copy_ #[44,280] ty #[.slice (some ⟨g,0,none⟩) 0 0,.slice a 0 c]).run prog w= .ok (goInt 0) w:=fun ty=>run_copy_none w _ _ ty 5 _ _ _ _ _ _ underlying44 (by kernel_rfl) (by rfl);unfold zav;rw[if_pos (by rfl)];have HA:=hid h;clear h;show Calls _ _ #[.slice a 0 c,.slice (some ⟨g,0,none⟩) 0 0] _ _;go_enter func250,ntmps250;go_wp2_with fail;go_end0;exact⟨rfl,HA.out,Fr.refl _ _⟩
 ·have hpos:0<m.length:=List.length_pos_iff.2 h0
  have hO:zav x m.length=x:=by unfold zav;rw[if_neg (by omega)]
  rw[hO];obtain⟨ga,oa,ha,_⟩:=hm.at_ 0 hpos
  have hcp:∀ty,(Builtin.copy_ #[44,280] ty #[.slice (some ⟨g,x,none⟩) m.length m.length,.slice a m.length c]).run prog w= .ok (goInt m.length) (w.setCells g x (zaj m)):=fun ty=>by
   have hcl:(zaj m).length=m.length:=by simp[zaj]
   rw[ha]
   have:=run_copy_cells (P:=prog) w 44 280 ty 5 g x m.length m.length ⟨ga,oa,none⟩ m.length c (zaj m) underlying44 (by kernel_rfl) (by rw[hcl,hmin]) (fun j v hv=>by
    have hj:j<m.length:=by
     have:=(List.getElem?_eq_some_iff.1 hv).1;rw[hcl]at this;exact this
    obtain⟨g',o',e',hc',_⟩:=hm.at_ j hj;rw[ha]at e';injection e' with e';injection e' with e1 e2;subst e1 e2;have hadd:(⟨ga,oa,none⟩:Addr).add j=⟨ga,oa+j,none⟩:=by unfold Addr.add;split<;>simp_all
    rw[hadd,hc',←hv,zaj,List.getElem?_map,List.getElem?_eq_getElem hj]
    rfl) (fun j hj=>by rw[hcl]at hj;rw[h.row.cell (x+j) (by omega)];rfl) (fun j _=>h.row.frozen _) (fun v hv=>by
     obtain⟨k,_,rfl⟩:=List.mem_map.1 hv;rfl)
   rw[hcl]at this;exact this
  have HW:=hid (h.setCells x m hE hm.byte);have HF:=hid (show Fr [g] w (w.setCells g x (zaj m))from(Fr.refl _ _).setCells (.inl (by simp)) _ _);generalize w.setCells g x (zaj m)=w1 at*;generalize spl l x m=l' at*;generalize m.length=n at*;clear h hm ha;go_enter func250,ntmps250;go_wp2_with fail;go_end0;exact⟨rfl,HW.out,HF.out⟩
theorem zjt(w:World)(p g cap:Nat)(l:List Nat)(h:IsA w p g cap l)(x c:Nat)(a:Option Addr)(m:List Nat)(hm:Byt w a m)(hE:x+m.length≤l.length):Calls prog 245 #[.pointer (some ⟨p,0,none⟩),.int .i64 x,.int .i64 m.length,.func (.func 250) #[.slice a m.length c] #[]] w fun e w'=>e= .returned (.int .i64 0)∧IsA w' p g cap (spl l x m)∧Fr [g] w w':=by
 have hp:=zeu w p g cap l h x m.length hE;have hz:=zra w p g cap l h x c a m hm hE;generalize spl l x m=l' at*;generalize zav x m.length=o at*;generalize m.length=n at*;clear h hm;go_enter func245,ntmps245;go_wp2_with fail;with_reducible refine hp.mono ?_
 rintro e w' ⟨rfl,rfl⟩;go_wp2_with fail;with_reducible refine hz.mono ?_
 rintro e w1 ⟨rfl,h1,f1⟩;go_wp2_with fail;go_ret;exact⟨rfl,h1,f1⟩
theorem zl1(w:World)(p g cap:Nat)(l:List Nat)(h:IsA w p g cap l)(x c:Nat)(a:Option Addr)(m:List Nat)(hm:Byt w a m)(hE:x+m.length≤l.length):Calls prog 179 #[.pointer (some ⟨p,0,none⟩),.int .i64 x,.slice a m.length c] w fun e w'=>e= .returned (.int .i64 0)∧IsA w' p g cap (spl l x m)∧Fr [g] w w':=by
 have hz:=zjt w p g cap l h x c a m hm hE;have hlen:=hm.len;generalize spl l x m=l' at*;generalize m.length=n at*;clear h hm;go_enter func179,ntmps179;go_wp2_with fail;with_reducible refine hz.mono ?_
 rintro e w1 ⟨rfl,h1,f1⟩;go_wp2_with fail;go_ret;exact⟨rfl,h1,f1⟩
def zht(l:List Int):Array Value:=(l.map (Value.int .i64)).toArray
def clsT:Array Value:=zht [0,32,48,64,96,128,192,256,384,512]
def fldT:Array Value:=zht [8,12,16,20,24,28,32,36,40,44,48,52,56,60,64,68,72,80,84,88,92]
structure TabM(w:World):Prop where
 cls: ∀i,w.cell? ⟨2,i,none⟩=clsT[i]?
 fld: ∀i,w.cell? ⟨0,i,none⟩=fldT[i]?
 size:3≤w.heap.size
theorem TabM.fr{w w':World}{S:List Nat}(h:TabM w)(hf:Fr S w w')(hS:∀k∈S,3≤k):TabM w':=
 ⟨fun i=>(hf.cell (p:=⟨2,i,none⟩) (by have:=h.size;simp;omega) (fun hm=>by have:=hS _ hm;simp at this)).trans (h.cls i),fun i=>(hf.cell (p:=⟨0,i,none⟩) (by have:=h.size;simp;omega) (fun hm=>by have:=hS _ hm;simp at this)).trans (h.fld i),Nat.le_trans h.size hf.size⟩
theorem TabM.alloc{w:World}(h:TabM w)(o:Obj):TabM (w.alloc o):=h.fr ((Fr.refl [] w).alloc o) (by simp)
structure Cfg(a s:Nat):Prop where
 a1:7≤a
 a2:a≤64
 s1:s %2=0
 s2:32*a≤s
 s3:s≤8192
def cfgV(a s:Nat):Value:= .agg #[.int .i64 a,.int .i64 s]
theorem zek{P:Program}(d:Nat)(xs ys:Array Value)(f:Field)(fs:List Field)(a b:Value)(r:Bool)(w:World)(hn:f.name≠ "_")(ha:∀w,(part f.type xs f.offset).run P w= .ok a w)(hb:∀w,(part f.type ys f.offset).run P w= .ok b w)
  (hr:∀w,(Op.equalIn d f.type a b).run P w= .ok r w) (s:Bool) (hs:(Op.eqFields d xs ys fs).run P w= .ok s w):(Op.eqFields d xs ys (f::fs)).run P w= .ok (r&&s) w:=by
 rw[Op.eqFields,if_pos hn];cases r<;>simp[Sem.run_bind,ha,hb,hr,hs]
theorem zee(xs:Array Value)(i:Nat)(v:Value)(h:xs[i]?=some v)(w:World):(part 3 xs i).run prog w= .ok v w:=by
 simp[part,go_sem,h,run_underlying underlying3]
theorem zty(a b c d:Int)(w:World):(Op.equalIn 10000 66 (.agg #[.int .i64 a,.int .i64 b]) (.agg #[.int .i64 c,.int .i64 d])).run prog w= .ok (a==c&&b==d) w:=by
 rw[show(10000:Nat)=9999+1 from rfl,run_equalIn_struct w 9999 66 _ _ (by kernel_rfl) (by kernel_rfl)];have hF:(prog.fieldsOf 66).toList= [⟨"Slabs",3,0,false,"","",0⟩,⟨"Slots",3,1,false,"","",8⟩] :=by kernel_rfl
 rw[hF];have hi:∀(a b:Int) (w:World),(Op.equalIn 9999 3 (.int .i64 a) (.int .i64 b)).run prog w= .ok (a==b) w:=fun a b w=>run_equalIn_int _ 9998 3 .i64 .i64 a b underlying3;refine zek _ _ _ _ _ (.int .i64 a) (.int .i64 c) _ _ (of_decide_eq_true (by kernel_rfl)) (zee _ _ _ rfl) (zee _ _ _ rfl) (fun w=>hi _ _ w) _ ?_;rw[←Bool.and_true (b==d)];refine zek _ _ _ _ _ (.int .i64 b) (.int .i64 d) _ _ (of_decide_eq_true (by kernel_rfl)) (zee _ _ _ rfl) (zee _ _ _ rfl) (fun w=>hi _ _ w) _ ?_;rfl
theorem zwl(w:World)(k:Nat)(hk:1≤k∧k≤9):Calls prog 196 #[.int .i64 k] w fun e w'=>e= .returned (.bool true)∧w'=w:=by
 have b1:decide ((1:Int)≤k)=true:=by simp;omega
 have b2:decide ((k:Int)≤9)=true:=by simp;omega
 go_enter func196,ntmps196;go_wp2_with fail;go_ret;exact⟨rfl,rfl⟩
theorem zr5(w:World)(hM:TabM w):Calls prog 156 #[.int .i64 1] w fun e w'=>e= .returned (.int .i64 32)∧w'=w:=by
 have hi:∀w,Calls prog 196 #[.int .i64 1] w fun e w'=>e= .returned (.bool true)∧w'=w:=fun w=>zwl w 1 (by omega);have hc:=hM.cls 1;simp[clsT,zht]at hc;go_enter func156,ntmps156;go_wp2_with fail;with_reducible refine(hi _).mono ?_
 rintro e w' ⟨rfl,rfl⟩;go_wp2_with fail;go_ret;exact⟨rfl,rfl⟩
theorem zfk(w:World)(hM:TabM w)(a s:Nat)(hc:Cfg a s):Calls prog 72 #[cfgV a s] w fun e w'=>e= .returned (.bool true)∧Fr [] w w':=by
 obtain⟨a1,a2,s1,s2,s3⟩:=hc
 have hE:∀w,(Op.equalIn 10000 66 (.agg #[.int .i64 a,.int .i64 s]) (.agg #[.int .i64 0,.int .i64 0])).run prog w= .ok false w:=fun w=>by
  rw[zty,show((a:Int)==0)=false by simp;omega,Bool.false_and]
 have b1:decide ((a:Int)<7)=false:=by simp;omega
 have b2:decide ((64:Int)<a)=false:=by simp;omega
 have b3:((s:Int) %2==0)=true:=by simp;omega
 have b4:decide ((a:Int)*32≤s)=true:=by simp;omega
 have b5:decide ((s:Int)≤8192)=true:=by simp;omega
 have hB:=fun n=>zr5 ((w.alloc (.cells #[.int .i64 a,.int .i64 s] 66)).drewN n) ((hM.alloc _).fr ((Fr.refl [] _).drewN n) (by simp));unfold cfgV;go_enter func72,ntmps72;go_wp2_with fail;go_quiet ((go_at_call 156;exact Calls.quiet_of_same (hB _)));go_wp2_with fail;go_ret;exact⟨rfl,((Fr.refl [] w).alloc _).drewN _⟩
def zaf(a:Nat):Nat:=128+16*a
def zab(a s:Nat):Nat:=(128+16*a+4*s+15)/16*16
def zae(a s:Nat):Nat:=zab a s+1024*a
theorem zc2(a s:Nat)(h:Cfg a s):zae a s≤131072:=by
 obtain⟨a1,a2,s1,s2,s3⟩:=h;unfold zae zab;omega
theorem zj7(a s:Nat)(h:Cfg a s):zab a s≤65536:=by
 obtain⟨a1,a2,s1,s2,s3⟩:=h;unfold zab;omega
theorem zd8(w:World)(a s:Nat)(h:Cfg a s):Calls prog 169 #[cfgV a s] w fun e w'=>e= .returned (.int .i64 (zaf a))∧Fr [] w w':=by
 have h2:=h.a2;have e:((zaf a:Nat):Int)=128+(a:Int)*16:=by unfold zaf;omega
 rw[e];unfold cfgV;go_enter func169,ntmps169;go_wp2_with fail;go_ret;exact⟨rfl,(Fr.refl [] w).alloc _⟩
theorem zuh(w:World)(n:Nat)(h:n≤1048576):Calls prog 239 #[.int .i64 n] w fun e w'=>e= .returned (.int .i64 ((n+15)/16*16:Nat))∧w'=w:=by
 have e:(((n+15)/16*16:Nat):Int)=((n:Int)+16-1)/16*16:=by omega
 rw[e];go_enter func239,ntmps239;go_wp2_with fail;go_ret;exact⟨rfl,rfl⟩
theorem zdz(w:World)(hM:TabM w)(a s:Nat)(h:Cfg a s):Calls prog 158 #[cfgV a s] w fun e w'=>e= .returned (.int .i64 (zab a s))∧Fr [] w w':=by
 have hr:=fun W h'=>zfk W h' a s h;have hs:=fun W=>zd8 W a s h;have h2:=h.a2;have h3:=h.s3;have hp:=fun W=>zuh W (zaf a+4*s) (by unfold zaf;omega);have e:(zaf a+4*s+15)/16*16=zab a s:=by unfold zaf zab;rfl
 rw[e]at hp;have e2:((zaf a+4*s:Nat):Int)=(zaf a:Int)+(s:Int)*4:=by omega
 rw[e2]at hp;have hsl:zaf a≤2000:=by unfold zaf;omega
 generalize zab a s=b at*;generalize zaf a=sl at*;unfold cfgV at*;clear e e2;go_enter func158,ntmps158;go_wp2_with fail;with_reducible refine(hr _ (hM.alloc _)).mono ?_
 rintro e w1 ⟨rfl,f1⟩;have hB1:=(Blk.new w 66 #[.int .i64 a,.int .i64 s]).fr f1 (by simp);have hF1:=((Fr.refl [] w).alloc (.cells #[.int .i64 a,.int .i64 s] 66)).trans f1;have c0:=hB1.cell 0;have c1:=hB1.cell 1;simp at c0 c1;clear f1 hr;go_wp2_with fail;have hB2:=hB1.fr (zcw (S:= [])) (by simp);have hF2:=hF1.drew;have u1:=i64_in ((s:Int)*4) (by omega);have u2:=i64_in ((sl:Int)+(s:Int)*4) (by omega)
 go_region_held3 (fun w'=>w'.cell? ⟨w.heap.size,0,none⟩=some (.int .i64 a)∧w'.cell? ⟨w.heap.size,1,none⟩=some (.int .i64 s)) (exact⟨c0,c1⟩)
  (first
   |(go_at_call 169;with_reducible refine(hs _).mono ?_;rintro e w3 ⟨rfl,f3⟩;have hF3:=hF2.trans f3;have hB3:=hB2.fr f3 (by simp);have c0:=hB3.cell 0;have c1:=hB3.cell 1;simp at c0 c1)
   |(go_at_call 239;with_reducible refine(hp _).mono ?_;rintro e w' ⟨rfl,rfl⟩))
 go_wp2_with fail;go_ret;exact⟨rfl,hF3⟩
theorem zdq(w:World)(hM:TabM w)(a s:Nat)(h:Cfg a s):Calls prog 74 #[cfgV a s] w fun e w'=>e= .returned (.int .i64 (zae a s))∧Fr [] w w':=by
 have hr:=fun W h'=>zfk W h' a s h;have hb:=fun W h'=>zdz W h' a s h;have h2:=h.a2;have hbl:=zj7 a s h;have e2:((zae a s:Nat):Int)=(zab a s:Int)+(a:Int)*1024:=by unfold zae;omega
 rw[e2];generalize zab a s=b at*;unfold cfgV at*;clear e2;go_enter func74,ntmps74;go_wp2_with fail;with_reducible refine(hr _ (hM.alloc _)).mono ?_
 rintro e w1 ⟨rfl,f1⟩;have hM1:=(hM.alloc (.cells #[.int .i64 a,.int .i64 s] 66)).fr f1 (by simp);have hB1:=(Blk.new w 66 #[.int .i64 a,.int .i64 s]).fr f1 (by simp);have hF1:=((Fr.refl [] w).alloc (.cells #[.int .i64 a,.int .i64 s] 66)).trans f1;have c0:=hB1.cell 0;have c1:=hB1.cell 1;simp at c0 c1;clear f1 hr;go_wp2_with fail;have hB2:=hB1.fr (zcw (S:= [])) (by simp);have hM2:=hM1.fr (zcw (S:= [])) (by simp);have hF2:=hF1.drew;have u1:=i64_in ((a:Int)*1024) (by omega);have u2:=i64_in ((b:Int)+(a:Int)*1024) (by omega)
 go_region_held3 (fun w'=>w'.cell? ⟨w.heap.size,0,none⟩=some (.int .i64 a)∧w'.cell? ⟨w.heap.size,1,none⟩=some (.int .i64 s)) (exact⟨c0,c1⟩)
  (first
   |(go_at_call 158;with_reducible refine(hb _ hM2).mono ?_;rintro e w3 ⟨rfl,f3⟩;have hF3:=hF2.trans f3;have hB3:=hB2.fr f3 (by simp);have c0:=hB3.cell 0;have c1:=hB3.cell 1;simp at c0 c1))
 go_wp2_with fail;go_ret;exact⟨rfl,hF3⟩
abbrev Rn:=Nat×Nat×Nat
def zcp(l:List Rn):List Value:=l.flatMap fun r=> [.int .i64 r.1,.int .i64 r.2.1,.int .i64 r.2.2]
theorem zje(l:List Rn)(r:Rn):zcp (l++ [r])=zcp l++ [.int .i64 r.1,.int .i64 r.2.1,.int .i64 r.2.2] :=by simp[zcp]
theorem zd6:∀(l:List Rn) (i:Nat) (r:Rn),l[i]?=some r→(zcp l)[3*i]?=some (.int .i64 r.1)∧(zcp l)[3*i+1]?=some (.int .i64 r.2.1)∧(zcp l)[3*i+2]?=some (.int .i64 r.2.2)
 | [],i,r,h=>by simp at h
 |x::l,0,r,h=>by
  simp at h;subst h;exact⟨rfl,rfl,rfl⟩
 |x::l,i+1,r,h=>by
  have:=zd6 l i r (by simpa using h);have e:zcp (x::l)= [.int .i64 x.1,.int .i64 x.2.1,.int .i64 x.2.2] ++zcp l:=rfl;rw[e,List.getElem?_append_right (by simp;omega),List.getElem?_append_right (by simp;omega),List.getElem?_append_right (by simp;omega)];simp only[List.length_cons,List.length_nil];rw[show 3*(i+1)-(0+1+1+1)=3*i by omega,show 3*(i+1)+1-(0+1+1+1)=3*i+1 by omega,show 3*(i+1)+2-(0+1+1+1)=3*i+2 by omega];exact this
def OwnR(w:World)(base:Nat)(v:Value)(l:List Rn):Prop:=w.ownsRow base 213 3 v l.length (zcp l)
def zao(l:List Rn):Nat:=match l.getLast? with
 |some r=>r.1+r.2.1
 |none=>0
def zau(l:List Rn)(e k:Nat):List Rn:=if zao l<e then l++ [(zao l,e-zao l,k)]else l
theorem zwj:(prog.info? 213).map (fun i=>(i.zero,i.size,i.bytes))=some (some (.agg #[.int .i64 0,.int .i64 0,.int .i64 0]),3,24):=by kernel_rfl
theorem zr6:∃i,prog.info? 213=some i∧i.zero=some (.agg #[.int .i64 0,.int .i64 0,.int .i64 0])∧i.size=3∧i.bytes=24:=by
 have h:=zwj;cases e:prog.info? 213 with
 |none=>rw[e]at h;cases h
 |some i=>
  rw[e]at h;simp at h;exact⟨i,rfl,h.1,h.2.1,h.2.2⟩
theorem zo4{w0 w w':World}{base n size:Nat}{e:TypeId}{v:Value}{xs:List Value}{S:List Nat}(h:w.ownsRow base e size v n xs)(hg:w.grownBy w' v.ownBlock)(hf:Fr S w0 w)(hb:w0.heap.size≤base):Fr S w0 w':=by
 have hno:∀k,k<base→some k≠v.ownBlock:=by
  obtain⟨h1,⟨rfl,h2⟩|⟨g,cap,cur,rfl,hgb,_⟩⟩:=h
  ·intro k _ e;cases e
  ·intro k hk e
   injection e with e;have e2:k=g:=e;omega
 exact⟨hg.os.trans hf.os,hg.tape.trans hf.tape,hg.output.trans hf.output,Nat.le_trans hf.size hg.size,fun k hk hn=>(hg.block k (Nat.lt_of_lt_of_le hk hf.size) (hno k (by omega))).trans (hf.block k hk hn)⟩
theorem zj2{w:World}{base n size g:Nat}{e t:TypeId}{v:Value}{xs:List Value}{cs:Array Value}(h:w.ownsRow base e size v n xs)(hb:Blk w g t cs)(hne:t≠e)(i:Nat)(u:Value):(w.setCell ⟨g,i,none⟩ u).ownsRow base e size v n xs:=by
 obtain⟨h1,h2|⟨g',cap,cur,rfl,hgb,hh,h3⟩⟩:=h
 ·exact⟨h1,.inl h2⟩
 ·refine⟨h1,.inr ⟨g',cap,cur,rfl,hgb,?_,h3⟩⟩
  refine(Below.heap_setCell w ⟨g,i,none⟩ u g' ?_).trans hh;rintro rfl;unfold Blk at hb;rw[hh]at hb;injection hb with hb;injection hb with _ h4;exact hne h4.symm
theorem zev{w w':World}{base n size:Nat}{e:TypeId}{v:Value}{xs:List Value}(h:w.ownsRow base e size v n xs)(hf:Fr [] w w'):w'.ownsRow base e size v n xs:=by
 obtain⟨h1,h2|⟨g',cap,cur,rfl,hgb,hh,h3⟩⟩:=h
 ·exact⟨h1,.inl h2⟩
 ·exact⟨h1,.inr ⟨g',cap,cur,rfl,hgb,Blk.fr (S:= []) hh hf (by simp),h3⟩⟩
theorem zcq{w w':World}{base n size g:Nat}{e t:TypeId}{v:Value}{xs:List Value}{cs:Array Value}(h:w.ownsRow base e size v n xs)(hg:w.grownBy w' v.ownBlock)(hb:Blk w g t cs)(hne:t≠e):Blk w' g t cs:=by
 refine(hg.block g hb.lt ?_).trans hb;obtain⟨h1,⟨rfl,h2⟩|⟨g',cap,cur,rfl,hgb,hh,_⟩⟩:=h
 ·intro e;cases e
 ·intro e2
  injection e2 with e2;have e3:g=g':=e2;subst e3;unfold Blk at hb;rw[hh]at hb;injection hb with hb;injection hb with _ h4;exact hne h4.symm
theorem zrl(w:World)(base:Nat)(v:Value)(l:List Rn)(h:OwnR w base v l)(g:Nat)(r:Rn)(hg:Blk w g 213 #[.int .i64 r.1,.int .i64 r.2.1,.int .i64 r.2.2])(hl:l.length≤1048576)(hbase:base≤w.heap.size):∃v' w',(Builtin.append_ #[210,210] 210 #[v,.slice (some ⟨g,0,none⟩) 1 1]).run prog w= .ok v' w'∧OwnR w' base v' (l++ [r])∧w.grownBy w' v.ownBlock∧(v'.ownBlock=v.ownBlock∨v'.ownBlock=some w.heap.size):=by
 obtain⟨i,hi,hz,hs,hb⟩:=zr6
 have hcells:∀j u,([.int .i64 r.1,.int .i64 r.2.1,.int .i64 r.2.2] :List Value)[j]?=some u→w.cell? ((⟨g,0,none⟩:Addr).add j)=some u:=by
  intro j u hu;have hadd:(⟨g,0,none⟩:Addr).add j=⟨g,j,none⟩:=by unfold Addr.add;split<;>simp_all
  rw[hadd,hg.cell j];simpa using hu
 obtain⟨v',w',hrun,h2,h3,_,h5⟩:=run_append_own_at (P:=prog) w base 210 210 213 i (.agg #[.int .i64 0,.int .i64 0,.int .i64 0]) 3 24 underlying210 hi hz hs hb rfl (by decide) v l.length (zcp l) h ⟨g,0,none⟩ 1 1 [.int .i64 r.1,.int .i64 r.2.1,.int .i64 r.2.2] rfl hcells (fun u hu=>by
  simp at hu;rcases hu with rfl|rfl|rfl<;>rfl) (by unfold maxLen;omega) (by omega) hbase
 refine⟨v',w',hrun,?_,h3,h5⟩;unfold OwnR;rw[List.length_append,zje];exact h2
theorem zf2{w:World}{ops:Array Oper}{rest:List Oper}{o:Oper}{a:Act}{Q:Exit→Act→World→Prop}(hgd:o.guard=none)(s x:Operand)(ho:o.op= .call {callee:= .builtin .append,args:= #[s,x],argTypes:= #[210,210]})(hty:o.type=210)
  (base:Nat) (v:Value) (l:List Rn) (hs:a.eval s=v) (hown:OwnR w base v l) (g:Nat) (r:Rn) (hx:a.eval x= .slice (some ⟨g,0,none⟩) 1 1) (hg:Blk w g 213 #[.int .i64 r.1,.int .i64 r.2.1,.int .i64 r.2.2])
  (hl:l.length≤1048576) (hbase:base≤w.heap.size)
  (h: ∀v' w',OwnR w' base v' (l++ [r])→w.grownBy w' v.ownBlock→(v'.ownBlock=v.ownBlock∨v'.ownBlock=some w.heap.size)→wpList prog ops Q rest (a.put o.dst v') w'):wpList prog ops Q (o::rest) a w:=by
 refine wpList_plain hgd fun _ hK=> ?_
 obtain⟨v',w',hrun,h2,h3,h4⟩:=zrl w base v l hown g r hg hl hbase
 unfold Oper.wp execOp
 simp only[ho,hty,resolve,invoke,builtin,Sem.run_bind,Sem.run_pure,Result.andThen_ok,List.map_toArray,List.map_cons,List.map_nil,hs,hx,hrun]
 exact hK _ _ (h v' w' h2 h3 h4)
def LayP(w:World)(base B:Nat)(l:List Rn)(w':World):Prop:=
 ∃v',Blk w' B 210 #[v'] ∧OwnR w' base v' l∧(∀w0,Fr [B] w0 w→w0.heap.size≤base→Fr [B] w0 w')∧w.heap.size≤w'.heap.size
theorem zcr{w:World}{base n size:Nat}{e:TypeId}{v:Value}{xs:List Value}(h:w.ownsRow base e size v n xs):∃A c,v= .slice A n c:=by
 obtain⟨h1,⟨rfl,rfl⟩|⟨g,cap,cur,rfl,_⟩⟩:=h
 ·exact⟨_,_,rfl⟩
 ·exact⟨_,_,rfl⟩
theorem zqo(w:World)(base B:Nat)(l:List Rn)(A:Option Addr)(c n:Nat)(hln:l.length=n)(hB:Blk w B 210 #[.slice A n c])(hO:OwnR w base (.slice A n c) l)(hbs:base≤w.heap.size)(e k x:Nat)(he:e≤1048576)(hx:zao l=x)(hx2:x≤1048576)(hn:n≤10)
  (hn0:n=0∨∃g,A=some ⟨g,0,none⟩∧∃y z:Nat,y+z=x∧w.cell? ⟨g,(n-1)*3,none⟩=some (.int .i64 y)∧w.cell? ⟨g,(n-1)*3+1,none⟩=some (.int .i64 z)∧n≤c∧1≤n):
  Calls prog 242 #[.int .i64 e,.int .i64 k,.pointer (some ⟨B,0,none⟩)] w fun e' w'=>e'= .returned (.tuple #[])∧LayP w base B (zau l e k) w':=by
 have hc:=hB.cell 0;have hfz:=hB.frozen 0;simp at hc;have HB:=hid hB;have HO:=hid hO;have HS:=hid (show zau l e k=if x<e then l++ [(x,e-x,k)]else l by unfold zau;rw[hx]);have hBl:=hB.lt;clear hB hO;rcases hn0 with rfl|⟨g,rfl,y,z,hyz,hcy,hcz,hnc,i1'⟩
 ·have hl0:l= [] :=List.eq_nil_of_length_eq_zero hln
  have hx0:x=0:=by rw[←hx,hl0];rfl
  subst hx0;clear hx;by_cases hlt:0<e
  ·have b1:decide ((0:Int)<e)=true:=by simp;omega
   have hsub:((e-0:Nat):Int)=(e:Int):=by omega
   have HLT:=hid hlt;go_enter func242,ntmps242;go_wp2_with (at_builtin;refine zf2 rfl _ _ rfl rfl base _ l rfl (World.ownsRow.alloc HO.out _) w.heap.size (0,e-0,k) rfl (by rw[hsub];exact Blk.new _ _ _) (by omega) (by simp;omega) ?_;intro v1 W1 hO1 hg1 hob1;have d0:=(zcq (World.ownsRow.alloc HO.out _) hg1 (HB.out.alloc _) (by decide)).cell 0;have d1:=(zcq (World.ownsRow.alloc HO.out _) hg1 (HB.out.alloc _) (by decide)).frozen 0;simp at d0;obtain⟨A1,c1,hv1⟩:=zcr hO1;generalize(l++ [(0,e-0,k)]).length=n1 at hv1;subst hv1);go_end0;refine⟨rfl,.slice A1 n1 c1,?_,?_,fun w0 hf hb=> ?_,?_⟩
   ·exact(zcq (World.ownsRow.alloc HO.out _) hg1 (HB.out.alloc _) (by decide)).set 0 _
   ·rw[HS.out,if_pos hlt]
    exact zj2 hO1 (zcq (World.ownsRow.alloc HO.out _) hg1 (HB.out.alloc _) (by decide)) (by decide) _ _
   ·exact(zo4 (World.ownsRow.alloc HO.out _) hg1 ((hf).alloc _) hb).setCell (.inl (by simp)) _
   ·have:=hg1.size
    simp at this⊢;omega
  ·have b1:decide ((0:Int)<e)=false:=by simp;omega
   go_enter func242,ntmps242;go_wp2_with fail;go_end0;refine⟨rfl,_,HB.out,?_,fun w0 hf _=>hf,Nat.le_refl _⟩;rw[HS.out,if_neg hlt];exact HO.out
 ·have i1:(0:Int)≤(n:Int)-1:=by omega
  have b0:decide ((1:Int)≤n)=true:=by simp;omega
  have i2:(n:Int)-1<n:=by omega
  have i3:=i64_in ((n:Int)-1) (by omega);have i4:((n:Int)-1).toNat=n-1:=by omega
  have i5:IntKind.i64.wrap ((y:Int)+z)=(x:Int):=(i64_in _ (by omega)).trans (by omega);by_cases hlt:x<e
  ·have b1:decide ((x:Int)<e)=true:=by simp;omega
   have hsub:((e-x:Nat):Int)=(e:Int)-x:=by omega
   have i6:=i64_in ((e:Int)-x) (by omega);have HLT:=hid hlt;have hl10:l.length≤1048576:=by omega
   clear hx hyz hln;go_enter func242,ntmps242;go_wp2_with fail;go_quiet (fail);have hO2:(w.drewN nq).ownsRow base 213 3 (.slice (some ⟨g,0,none⟩) n c) l.length (zcp l):=HO.out;have hB2:Blk (w.drewN nq) B 210 #[.slice (some ⟨g,0,none⟩) n c] :=HB.out;have hs2:(w.drewN nq).heap.size=w.heap.size:=rfl;have hfr2:∀w0,Fr [B] w0 w→Fr [B] w0 (w.drewN nq):=fun w0 h=>h.drewN nq;generalize w.drewN nq=w2 at*;have e0:=hB2.cell 0;simp at e0;have e1:=hB2.frozen 0;have hbs2:base≤w2.heap.size:=by omega
   have HS2:=hid hs2;clear hs2;go_wp2_with (at_builtin;refine zf2 rfl _ _ rfl rfl base _ l rfl (World.ownsRow.alloc hO2 _) _ (x,e-x,k) rfl (by rw[hsub];exact Blk.new _ _ _) (by omega) (by simp;omega) ?_;intro v1 W1 hO1 hg1 hob1;have d0:=(zcq (World.ownsRow.alloc hO2 _) hg1 (hB2.alloc _) (by decide)).cell 0;have d1:=(zcq (World.ownsRow.alloc hO2 _) hg1 (hB2.alloc _) (by decide)).frozen 0;simp at d0;obtain⟨A1,c1,hv1⟩:=zcr hO1;generalize(l++ [(x,e-x,k)]).length=n1 at hv1;subst hv1);go_end0;refine⟨rfl,.slice A1 n1 c1,?_,?_,fun w0 hf hb=> ?_,?_⟩
   ·exact(zcq (World.ownsRow.alloc hO2 _) hg1 (hB2.alloc _) (by decide)).set 0 _
   ·rw[HS.out,if_pos hlt]
    exact zj2 hO1 (zcq (World.ownsRow.alloc hO2 _) hg1 (hB2.alloc _) (by decide)) (by decide) _ _
   ·exact(zo4 (World.ownsRow.alloc hO2 _) hg1 ((hfr2 w0 hf).alloc _) hb).setCell (.inl (by simp)) _
   ·have:=hg1.size
    have h2:=HS2.out;simp at this⊢;omega
  ·have b1:decide ((x:Int)<e)=false:=by simp;omega
   go_enter func242,ntmps242;go_wp2_with fail;go_quiet (fail);go_wp2_with fail;go_end0;refine⟨rfl,_,HB.out,?_,fun w0 hf _=>hf.drewN _,Nat.le_refl _⟩;rw[HS.out,if_neg hlt];exact HO.out
theorem zd4(w:World)(base B:Nat)(v:Value)(l:List Rn)(hB:Blk w B 210 #[v])(hO:OwnR w base v l)(hbs:base≤w.heap.size)(e k:Nat)(he:e≤1048576)(hx2:zao l≤1048576)(hn:l.length≤10):Calls prog 242 #[.int .i64 e,.int .i64 k,.pointer (some ⟨B,0,none⟩)] w fun e' w'=>e'= .returned (.tuple #[])∧LayP w base B (zau l e k) w':=by
 obtain⟨A,c,rfl⟩:=zcr hO;refine zqo w base B l A c l.length rfl hB hO hbs e k (zao l) he rfl hx2 hn ?_;by_cases h0:l.length=0
 ·exact .inl h0
 ·obtain⟨g,cap,hv,_,_⟩:=World.ownsRow.form hO (by omega)
  have hcells:=World.ownsRow.cells hO (g:=g) (by rw[hv];rfl);injection hv with hA _ hcc;subst hA;refine .inr ⟨g,rfl,?_⟩;obtain⟨r,hr⟩:∃r,l[l.length-1]?=some r:=⟨_,List.getElem?_eq_getElem (by omega)⟩
  have hle:zao l=r.1+r.2.1:=by
   unfold zao;rw[List.getLast?_eq_getElem?,hr]
  obtain⟨e1,e2,_⟩:=zd6 l _ r hr;have hadd:∀j,(⟨g,0,none⟩:Addr).add j=⟨g,j,none⟩:=fun j=>by unfold Addr.add;split<;>simp_all
  have f1:=hcells _ _ e1;have f2:=hcells _ _ e2;rw[hadd]at f1 f2;refine⟨r.1,r.2.1,hle.symm,by rw[Nat.mul_comm];exact f1,by rw[Nat.mul_comm];exact f2,?_,by omega⟩;obtain⟨h1,⟨h2,_⟩|⟨g',cap',cur,h2,_,_,hnc,_⟩⟩:=hO
  ·cases h2
  ·injection h2 with _ _ h3
   omega
def l1:List Rn:=zau [] 8 1
def l2:List Rn:=zau l1 128 2
def l3(a:Nat):List Rn:=zau l2 (zaf a) 3
def l4(a s:Nat):List Rn:=zau (l3 a) (zaf a+4*s) 4
def l5(a s:Nat):List Rn:=zau (l4 a s) (zab a s) 8
def zfy(a s:Nat):List Rn:=zau (l5 a s) (zae a s) 7
theorem zbi(l:List Rn)(e k:Nat):(zau l e k).length≤l.length+1:=by unfold zau;split<;>simp
theorem zbh(l:List Rn)(e k:Nat)(h:zao l≤e):zao (zau l e k)=e:=by
 unfold zau;by_cases c:zao l<e
 ·rw[if_pos c]
  generalize zao l=x at*;simp[zao];omega
 ·rw[if_neg c];omega
theorem zmh(a s:Nat)(h:Cfg a s):zao l1=8∧zao l2=128∧zao (l3 a)=zaf a∧zao (l4 a s)=zaf a+4*s∧zao (l5 a s)=zab a s∧zao (zfy a s)=zae a s:=by
 obtain⟨a1,a2,s1,s2,s3⟩:=h;have e1:zao l1=8:=zbh _ _ _ (by decide);have e2:zao l2=128:=zbh _ _ _ (by rw[e1];omega);have e3:zao (l3 a)=zaf a:=zbh _ _ _ (by rw[e2];unfold zaf;omega);have e4:zao (l4 a s)=zaf a+4*s:=zbh _ _ _ (by rw[e3];omega);have e5:zao (l5 a s)=zab a s:=zbh _ _ _ (by rw[e4];unfold zaf zab;omega);exact⟨e1,e2,e3,e4,e5,zbh _ _ _ (by rw[e5];unfold zae;omega)⟩
theorem ztg(a s:Nat):l1.length≤1∧l2.length≤2∧(l3 a).length≤3∧(l4 a s).length≤4∧(l5 a s).length≤5∧(zfy a s).length≤6:=by
 have e1:l1.length≤1:=zbi _ _ _;have e2:l2.length≤2:=Nat.le_trans (zbi _ _ _) (by omega);have e3:(l3 a).length≤3:=Nat.le_trans (zbi _ _ _) (by omega);have e4:(l4 a s).length≤4:=Nat.le_trans (zbi _ _ _) (by omega);have e5:(l5 a s).length≤5:=Nat.le_trans (zbi _ _ _) (by omega);exact⟨e1,e2,e3,e4,e5,Nat.le_trans (zbi _ _ _) (by omega)⟩
def zwp(w:World)(l:List Rn)(e:Ending)(w':World):Prop:= ∃v,e= .returned v∧OwnR w' w.heap.size v l∧Fr [] w w'
theorem zo7(w:World)(hM:TabM w)(a s:Nat)(h:Cfg a s):Calls prog 162 #[cfgV a s] w (zwp w (zfy a s)):=by
 have hr:=fun W h'=>zfk W h' a s h;have hsl:=fun W=>zd8 W a s h;have hba:=fun W h'=>zdz W h' a s h;have hsi:=fun W h'=>zdq W h' a s h;obtain⟨n1,n2,n3,n4,n5,n6⟩:=ztg a s;obtain⟨e1,e2,e3,e4,e5,e6⟩:=zmh a s h;have hszl:=zc2 a s h;have hbl:=zj7 a s h;have hc:=h;have ha2:=h.a2;have hs3:=h.s3;have hslb:zaf a≤2000:=by unfold zaf;omega
 have y1:∀W base B v,Blk W B 210 #[v]→OwnR W base v []→base≤W.heap.size→Calls prog 242 #[.int .i64 8,.int .i64 1,.pointer (some ⟨B,0,none⟩)] W fun e' w'=>e'= .returned (.tuple #[])∧LayP W base B l1 w':=fun W base B v hB hO hb=>zd4 W base B v [] hB hO hb 8 1 (by omega) (by decide) (by simp);have y2:∀W base B v,Blk W B 210 #[v]→OwnR W base v l1→base≤W.heap.size→Calls prog 242 #[.int .i64 128,.int .i64 2,.pointer (some ⟨B,0,none⟩)] W fun e' w'=>e'= .returned (.tuple #[])∧LayP W base B l2 w':=fun W base B v hB hO hb=>zd4 W base B v l1 hB hO hb 128 2 (by omega) (by omega) (by omega);have y3:∀W base B v,Blk W B 210 #[v]→OwnR W base v l2→base≤W.heap.size→Calls prog 242 #[.int .i64 (zaf a),.int .i64 3,.pointer (some ⟨B,0,none⟩)] W fun e' w'=>e'= .returned (.tuple #[])∧LayP W base B (l3 a) w':=fun W base B v hB hO hb=>zd4 W base B v l2 hB hO hb (zaf a) 3 (by omega) (by omega) (by omega)
 have y4:∀W base B v,Blk W B 210 #[v]→OwnR W base v (l3 a)→base≤W.heap.size→Calls prog 242 #[.int .i64 ((zaf a:Int)+(s:Int)*4),.int .i64 4,.pointer (some ⟨B,0,none⟩)] W fun e' w'=>e'= .returned (.tuple #[])∧LayP W base B (l4 a s) w':=fun W base B v hB hO hb=>by
  have:=zd4 W base B v (l3 a) hB hO hb (zaf a+4*s) 4 (by omega) (by omega) (by omega);rw[show((zaf a+4*s:Nat):Int)=(zaf a:Int)+(s:Int)*4 by omega]at this;exact this
 have y5:∀W base B v,Blk W B 210 #[v]→OwnR W base v (l4 a s)→base≤W.heap.size→Calls prog 242 #[.int .i64 (zab a s),.int .i64 8,.pointer (some ⟨B,0,none⟩)] W fun e' w'=>e'= .returned (.tuple #[])∧LayP W base B (l5 a s) w':=fun W base B v hB hO hb=>zd4 W base B v (l4 a s) hB hO hb (zab a s) 8 (by omega) (by omega) (by omega);have y6:∀W base B v,Blk W B 210 #[v]→OwnR W base v (l5 a s)→base≤W.heap.size→Calls prog 242 #[.int .i64 (zae a s),.int .i64 7,.pointer (some ⟨B,0,none⟩)] W fun e' w'=>e'= .returned (.tuple #[])∧LayP W base B (zfy a s) w':=fun W base B v hB hO hb=>zd4 W base B v (l5 a s) hB hO hb (zae a s) 7 (by omega) (by omega) (by omega);have u1:=i64_in ((s:Int)*4) (by omega);have u2:=i64_in ((zaf a:Int)+(s:Int)*4) (by omega);obtain⟨P,hP⟩:∃P,P=zwp w (zfy a s):=⟨_,rfl⟩;rw[←hP];have HP:=hid hP;have U1:=hid u1;have U2:=hid u2;clear hP n1 n2 n3 n4 n5 n6 e1 e2 e3 e4 e5 e6 h hc u1 u2;generalize zaf a=sl at*;generalize zab a s=ba at*;generalize zae a s=si at*;generalize l3 a=L3 at*;generalize l4 a s=L4 at*;generalize l5 a s=L5 at*;generalize zfy a s=L6 at*;generalize l1=L1 at*;generalize l2=L2 at*;unfold cfgV at*;go_enter func162,ntmps162;go_wp2_with fail;with_reducible refine(hr _ (hM.alloc _)).mono ?_
 rintro e w1 ⟨rfl,f1⟩;have hM1:=(hM.alloc (.cells #[.int .i64 a,.int .i64 s] 66)).fr f1 (by simp);have hC1:=(Blk.new w 66 #[.int .i64 a,.int .i64 s]).fr f1 (by simp);have hF1:=((Fr.refl [] w).alloc (.cells #[.int .i64 a,.int .i64 s] 66)).trans f1;have hCB:w.heap.size<w1.heap.size:=hC1.lt;have hMz:=hM1.size;obtain⟨W0,hW0⟩:∃W0,W0=w1.alloc (.cells #[.slice none 0 0] 210):=⟨_,rfl⟩;have hB0:Blk W0 w1.heap.size 210 #[.slice none 0 0] :=by rw[hW0];exact Blk.new _ _ _
 have hO0:OwnR W0 W0.heap.size (.slice none 0 0) [] :=World.ownsRow_nil _ _ _ _;have hC0:Blk W0 w.heap.size 66 #[.int .i64 a,.int .i64 s] :=by rw[hW0];exact hC1.alloc _
 have hM0:TabM W0:=by rw[hW0];exact hM1.alloc _
 have hF0:Fr [] w W0:=by rw[hW0];exact hF1.alloc _
 have hz0:W0.heap.size=w1.heap.size+1:=by rw[hW0,World.size_alloc]
 have HW0:=hid hW0;clear f1 hr hC1 hF1 hM hM1 hW0;go_wp2_with fail;rw[←HW0.out];with_reducible refine(y1 _ _ _ _ hB0 hO0 (Nat.le_refl _)).mono ?_
 rintro e W1 ⟨rfl,v1,hB1,hO1,fr1,_⟩;have hFB1:Fr [w1.heap.size] W0 W1:=fr1 W0 (Fr.refl _ _) (Nat.le_refl _);clear hB0 hO0 fr1 y1;go_wp2_with fail;with_reducible refine(y2 _ _ _ _ hB1 hO1 hFB1.size).mono ?_
 rintro e W2 ⟨rfl,v2,hB2,hO2,fr2,_⟩;have hFB2:Fr [w1.heap.size] W0 W2:=fr2 W0 hFB1 (Nat.le_refl _);have hC2:=hC0.fr hFB2 (by simp;omega);have c0:=hC2.cell 0;have c1:=hC2.cell 1;simp at c0 c1;clear hB1 hO1 fr2 y2 hFB1;go_wp2_with fail;with_reducible refine(hsl _).mono ?_
 rintro e W3 ⟨rfl,f3⟩;have hB3:=hB2.fr f3 (by simp);have hO3:OwnR W3 W0.heap.size v2 L2:=zev hO2 f3;have hFB3:=hFB2.trans (f3.mono (S':= [w1.heap.size]) (fun _ hm=>by simp at hm));clear hB2 hO2 hFB2 hC2 c0 c1 f3;go_wp2_with fail;with_reducible refine(y3 _ _ _ _ hB3 hO3 hFB3.size).mono ?_
 rintro e W4 ⟨rfl,v4,hB4,hO4,fr4,_⟩;have hFB4:Fr [w1.heap.size] W0 W4:=fr4 W0 hFB3 (Nat.le_refl _);have hC4:=hC0.fr hFB4 (by simp;omega);have c0:=hC4.cell 0;have c1:=hC4.cell 1;simp at c0 c1;clear hB3 hO3 fr4 y3 hFB3;go_wp2_with fail;have u1:=U1.out;have u2:=U2.out;have hB5:=hB4.drew;have hO5:OwnR W4.drew W0.heap.size v4 L3:=hO4;have hFB5:=hFB4.drew;clear hB4 hO4 hFB4 hC4
 go_region_held3 (fun w'=>w'.cell? ⟨w.heap.size,0,none⟩=some (.int .i64 a)∧w'.cell? ⟨w.heap.size,1,none⟩=some (.int .i64 s)) (exact⟨c0,c1⟩)
  (first
   |(go_at_call 169;(with_reducible refine(hsl _).mono ?_);rintro e W6 ⟨rfl,f6⟩;have hB6:=hB5.fr f6 (by simp);have hO6:OwnR W6 W0.heap.size v4 L3:=zev hO5 f6;have hFB6:=hFB5.trans (f6.mono (S':= [w1.heap.size]) (fun _ hm=>by simp at hm));have hC6:=hC0.fr hFB6 (by simp;omega);have c0:=hC6.cell 0;have c1:=hC6.cell 1;simp at c0 c1)
   |(go_at_call 242;(with_reducible refine(y4 _ _ _ _ hB6 hO6 hFB6.size).mono ?_);rintro e W7 ⟨rfl,v7,hB7,hO7,fr7,_⟩;have hFB7:Fr [w1.heap.size] W0 W7:=fr7 W0 hFB6 (Nat.le_refl _);have hC7:=hC0.fr hFB7 (by simp;omega);have c0:=hC7.cell 0;have c1:=hC7.cell 1;simp at c0 c1))
 clear hB5 hO5 hFB5 hB6 hO6 hFB6 hC6 u1 u2 f6 fr7;go_wp2_with fail;with_reducible refine(hba _ (hM0.fr hFB7 (by simp;omega))).mono ?_
 rintro e W8 ⟨rfl,f8⟩;have hB8:=hB7.fr f8 (by simp);have hO8:OwnR W8 W0.heap.size v7 L4:=zev hO7 f8;have hFB8:=hFB7.trans (f8.mono (S':= [w1.heap.size]) (fun _ hm=>by simp at hm));clear hB7 hO7 hFB7 hC7 c0 c1 f8;go_wp2_with fail;with_reducible refine(y5 _ _ _ _ hB8 hO8 hFB8.size).mono ?_
 rintro e W9 ⟨rfl,v9,hB9,hO9,fr9,_⟩;have hFB9:Fr [w1.heap.size] W0 W9:=fr9 W0 hFB8 (Nat.le_refl _);have hC9:=hC0.fr hFB9 (by simp;omega);have c0:=hC9.cell 0;have c1:=hC9.cell 1;simp at c0 c1;clear hB8 hO8 fr9 y5 hFB8;go_wp2_with fail;with_reducible refine(hsi _ (hM0.fr hFB9 (by simp;omega))).mono ?_
 rintro e W10 ⟨rfl,f10⟩;have hB10:=hB9.fr f10 (by simp);have hO10:OwnR W10 W0.heap.size v9 L5:=zev hO9 f10;have hFB10:=hFB9.trans (f10.mono (S':= [w1.heap.size]) (fun _ hm=>by simp at hm));clear hB9 hO9 hFB9 hC9 c0 c1 f10;go_wp2_with fail;with_reducible refine(y6 _ _ _ _ hB10 hO10 hFB10.size).mono ?_
 rintro e W11 ⟨rfl,v11,hB11,hO11,fr11,_⟩;have hFB11:Fr [w1.heap.size] W0 W11:=fr11 W0 hFB10 (Nat.le_refl _);have d0:=hB11.cell 0;simp at d0;obtain⟨A11,k11,hv11⟩:=zcr hO11;generalize L6.length=n11 at hv11;subst hv11;go_wp2_with fail;rw[HP.out];refine⟨_,rfl,⟨hO11.1,?_⟩,hF0.step hFB11 (by simp;omega)⟩;rcases hO11.2 with h2|⟨g',cap',cur',h1,hb',h3⟩
 ·exact .inl h2
 ·exact .inr ⟨g',cap',cur',h1,by omega,h3⟩
end Go.Proofs.YtolhkhdbgnciiaaGreatDoor
