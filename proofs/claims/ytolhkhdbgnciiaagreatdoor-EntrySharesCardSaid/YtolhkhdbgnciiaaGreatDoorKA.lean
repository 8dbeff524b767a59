/- Several texts in one. -/
import Derived.Test.YtolhkhdbgnciiaaGreatDoorGI
namespace Go.Proofs.YtolhkhdbgnciiaaGreatDoor
open _root_.Go.Proofs.Tryz
open Go.Lib (hid)
open Go.IntWalk (i64_in)
set_option linter.unusedVariables false
set_option linter.unusedSimpArgs false
open Go.RowKit
section
variable {w : World} {q : MH} {t : TM}
def ptV(m f:Nat):Value:= .agg #[.pointer (some ⟨m,0,none⟩),.int .i64 f]
theorem zyo(h:IsT w q t):Calls prog 84 #[.pointer (some ⟨q.m,0,none⟩)] w fun e w'=>e= .returned (.bool true)∧Fr [] w w':=by
 have hc:=zca h;have ha:=h.ok.cfg.a1;have hq:=fun W=>za7 t.a t.s ha W;unfold cfgV at hc;clear h;generalize t.a=a at*;generalize t.s=s at*;go_enter func84,ntmps84;go_wp2_with fail;with_reducible refine hc.mono ?_
 rintro e w1 ⟨rfl,f1⟩;have F1:=hid f1;clear f1 hc;go_wp2_with fail;go_ret;exact⟨rfl,F1.out⟩
theorem zvl(w:World)(m:Nat):Calls prog 171 #[.pointer (some ⟨m,0,none⟩)] w fun e w'=>e= .returned (ptV m 13)∧Fr [] w w':=by
 unfold ptV;go_enter func171,ntmps171;go_wp2_with fail;go_returns;exact⟨rfl,(Fr.refl [] w).alloc _⟩
theorem zzs(w:World)(m:Nat):Calls prog 172 #[.pointer (some ⟨m,0,none⟩)] w fun e w'=>e= .returned (ptV m 14)∧Fr [] w w':=by
 unfold ptV;go_enter func172,ntmps172;go_wp2_with fail;go_returns;exact⟨rfl,(Fr.refl [] w).alloc _⟩
theorem rpat(h:IsH w q t)(f:Nat)(hf:f<16):Calls prog 183 #[ptV q.m f] w fun e w'=>e= .returned (.int .i64 (t.rt f))∧IsH w' q t∧Fr q.blocks w w':=by
 have hw:fldW f=4:=by unfold fldW;rw[if_neg (by omega)]
 have hlt:=h.ok.rt f;rw[hw]at hlt;have hw64:IntKind.i64.wrap (t.rt f:Int)=t.rt f:=i64_in _ (by have:(256:Nat)^4=4294967296:=rfl;omega);have HT:=hid (fun W (hW:IsH W q t)=>(show Calls prog 45 #[.pointer (some ⟨q.m,0,none⟩),.int .i64 f] W fun e w'=>e= .returned (.int .u64 (t.rt f))∧IsT w' q t∧Fr q.blocks W w' from zqu hW.m f (by omega) f rfl));have H0:=hid (h.alloc (.cells #[.pointer (some ⟨q.m,0,none⟩),.int .i64 f] 146));have F0:=hid (((Fr.refl [] w).alloc (.cells #[.pointer (some ⟨q.m,0,none⟩),.int .i64 f] 146)).nil (S:=q.blocks));unfold ptV;clear h;generalize t.rt f=v at*;go_enter func183,ntmps183;go_wp2_with fail;with_reducible refine(HT.out _ H0.out).mono ?_
 rintro e w1 ⟨rfl,h1,f1⟩;have H1:=hid (H0.out.step h1 f1);have F1:=hid (F0.out.trans f1);clear h1 f1;go_wp2_with fail;go_ret;exact⟨rfl,H1.out,F1.out⟩
theorem zrb(h:IsH w q t)(f:Nat)(hf:f<16)(x:Nat)(hx:x<4294967296):Calls prog 86 #[ptV q.m f,.int .i64 x] w fun e w'=>e= .returned (.tuple #[])∧IsH w' q (t.setRt f x)∧Fr q.blocks w w':=by
 have hw:fldW f=4:=by unfold fldW;rw[if_neg (by omega)]
 have hw64:IntKind.u64.wrap (x:Int)=x:=IntWalk.u64_in _ (by omega);have HT:=hid (fun W (hW:IsH W q t)=>(show Calls prog 83 #[.pointer (some ⟨q.m,0,none⟩),.int .i64 f,.int .u64 x] W fun e w'=>e= .returned (.bool true)∧IsT w' q (t.setRt f x)∧Fr q.blocks W w' from zcg hW.m f (by omega) x (by rw[hw];exact hx) f rfl x rfl));have H0:=hid (h.alloc (.cells #[.pointer (some ⟨q.m,0,none⟩),.int .i64 f] 146));have F0:=hid (((Fr.refl [] w).alloc (.cells #[.pointer (some ⟨q.m,0,none⟩),.int .i64 f] 146)).nil (S:=q.blocks));unfold ptV;clear h;go_enter func86,ntmps86;go_wp2_with fail;with_reducible refine(HT.out _ H0.out).mono ?_
 rintro e w1 ⟨rfl,h1,f1⟩;have H1:=hid (H0.out.step h1 f1);have F1:=hid (F0.out.trans f1);clear h1 f1;go_wp2_with fail;go_end0;exact⟨rfl,H1.out,F1.out⟩
theorem rlen(h:IsH w q t):Calls prog 15 #[.pointer (some ⟨q.m,0,none⟩)] w fun e w'=>e= .returned (.int .i64 (t.rt 15))∧IsH w' q t∧Fr q.blocks w w':=by
 have hlt:=h.ok.rt 15;have hw64:IntKind.i64.wrap (t.rt 15:Int)=t.rt 15:=i64_in _ (by have:(256:Nat)^fldW 15=4294967296:=rfl;omega);have HT:=(show Calls prog 45 #[.pointer (some ⟨q.m,0,none⟩),.int .i64 15] w fun e w'=>e= .returned (.int .u64 (t.rt 15))∧IsT w' q t∧Fr q.blocks w w' from zqu h.m 15 (by omega) 15 rfl);have H0:=hid h;clear h;generalize t.rt 15=v at*;go_enter func15,ntmps15;go_wp2_with fail;with_reducible refine HT.mono ?_
 rintro e w1 ⟨rfl,h1,f1⟩;have H1:=hid (H0.out.step h1 f1);have F1:=hid f1;clear h1 f1 HT;go_wp2_with fail;go_ret;exact⟨rfl,H1.out,F1.out⟩
theorem z0w(h:IsH w q t){x tag:Nat}{N:Nat→Nat}(hh:HeadTo t x tag 5 N 12)(hN:N 0=tag)(h5:(wh tag 5).2=4):Calls prog 132 #[.pointer (some ⟨q.m,0,none⟩),.int .i64 x] w fun e w'=>e= .returned (.int .i64 (N 5))∧IsH w' q t∧Fr q.blocks w w':=by
 have hl:=zoc h hh (.inl ⟨rfl,hN⟩) 5
 have e:hvN tag N 5=N 5:=by
  unfold hvN;have ht:=hh.tg;have:whZ tag 5=wh tag 5:=by unfold whZ;rw[if_pos (by omega),Int.toNat_natCast];rfl
  rw[this,if_neg (by omega)];rfl
 rw[e]at hl;have hlt:=hh.lt 5 (by decide) (by omega);rw[h5]at hlt;have hw64:IntKind.i64.wrap (N 5:Int)=N 5:=i64_in _ (by have:(256:Nat)^4=4294967296:=rfl;omega);clear h hh;generalize N 5=v at*;go_enter func132,ntmps132;go_wp2_with fail;with_reducible refine hl.mono ?_
 rintro e w1 ⟨rfl,h1,f1⟩;have H1:=hid h1;have F1:=hid f1;clear h1 f1 hl;go_wp2_with fail;go_ret;exact⟨rfl,H1.out,F1.out⟩
theorem z1t(h:IsH w q t){x tag:Nat}{N:Nat→Nat}(hh:HeadTo t x tag 5 N 12)(hN:N 0=tag)(h6:(wh tag 6).2=4):Calls prog 136 #[.pointer (some ⟨q.m,0,none⟩),.int .i64 x] w fun e w'=>e= .returned (.int .i64 (N 6))∧IsH w' q t∧Fr q.blocks w w':=by
 have hl:=zoc h hh (.inl ⟨rfl,hN⟩) 6
 have e:hvN tag N 6=N 6:=by
  unfold hvN;have ht:=hh.tg;have:whZ tag 6=wh tag 6:=by unfold whZ;rw[if_pos (by omega),Int.toNat_natCast];rfl
  rw[this,if_neg (by omega)];rfl
 rw[e]at hl;have hlt:=hh.lt 6 (by decide) (by omega);rw[h6]at hlt;have hw64:IntKind.i64.wrap (N 6:Int)=N 6:=i64_in _ (by have:(256:Nat)^4=4294967296:=rfl;omega);clear h hh;generalize N 6=v at*;go_enter func136,ntmps136;go_wp2_with fail;with_reducible refine hl.mono ?_
 rintro e w1 ⟨rfl,h1,f1⟩;have H1:=hid h1;have F1:=hid f1;clear h1 f1 hl;go_wp2_with fail;go_ret;exact⟨rfl,H1.out,F1.out⟩
theorem zvz(tag:Nat)(ht:tag≤2):whZ tag 5=wh tag 5:=by unfold whZ;rw[if_pos (by omega),Int.toNat_natCast];rfl
theorem zw5(tag:Nat)(ht:tag≤2):whZ tag 6=wh tag 6:=by unfold whZ;rw[if_pos (by omega),Int.toNat_natCast];rfl
theorem wh1:wh 1 5=(8,4)∧wh 1 6=(12,4):=by decide
def TM.nxt(t:TM)(x v:Nat):TM:=t.setB (x+8) 4 v
def TM.prv(t:TM)(x v:Nat):TM:=t.setB (x+12) 4 v
theorem zo3(t:TM)(x v:Nat)(hv:v<4294967296):t.hst x 1 5 v=t.nxt x v:=by
 unfold TM.hst hstB;rw[zvz 1 (by decide),wh1.1,if_pos (by simpa using hv)];rfl
theorem zm0(t:TM)(x v:Nat)(hv:v<4294967296):t.hst x 1 6 v=t.prv x v:=by
 unfold TM.hst hstB;rw[zw5 1 (by decide),wh1.2,if_pos (by simpa using hv)];rfl
theorem HeadTo.nxt{x:Nat}{N:Nat→Nat}(hh:HeadTo t x 1 5 N 12)(hok:t.Ok)(v:Nat)(hv:v<4294967296):HeadTo (t.nxt x v) x 1 5 (up N 5 v) 12∧(t.nxt x v).Ok:=by
 have:=hh.hst hok 5 v;rw[zo3 t x v hv]at this;have hb:hstB 1 5 v=true:=by unfold hstB;rw[zvz 1 (by decide),wh1.1];simpa using hv
 rw[hb,if_pos rfl]at this;exact this
theorem HeadTo.prv{x:Nat}{N:Nat→Nat}(hh:HeadTo t x 1 5 N 12)(hok:t.Ok)(v:Nat)(hv:v<4294967296):HeadTo (t.prv x v) x 1 5 (up N 6 v) 12∧(t.prv x v).Ok:=by
 have:=hh.hst hok 6 v;rw[zm0 t x v hv]at this;have hb:hstB 1 6 v=true:=by unfold hstB;rw[zw5 1 (by decide),wh1.2];simpa using hv
 rw[hb,if_pos rfl]at this;exact this
theorem hstN(h:IsH w q t){x:Nat}{N:Nat→Nat}(hh:HeadTo t x 1 5 N 12)(hN:N 0=1)(v:Nat)(hv:v<4294967296):Calls prog 200 #[.pointer (some ⟨q.m,0,none⟩),.int .i64 x,.int .i64 5,.int .u64 v] w fun e w'=>e= .returned (.bool true)∧IsH w' q (t.nxt x v)∧Fr q.blocks w w':=by
 have:=zj9 h hh (.inl ⟨rfl,hN⟩) 5 v (by omega);rw[zo3 t x v hv,show hstB 1 5 v=true from by unfold hstB;rw[zvz 1 (by decide),wh1.1];simpa using hv]at this;exact this
theorem hstP(h:IsH w q t){x:Nat}{N:Nat→Nat}(hh:HeadTo t x 1 5 N 12)(hN:N 0=1)(v:Nat)(hv:v<4294967296):Calls prog 200 #[.pointer (some ⟨q.m,0,none⟩),.int .i64 x,.int .i64 6,.int .u64 v] w fun e w'=>e= .returned (.bool true)∧IsH w' q (t.prv x v)∧Fr q.blocks w w':=by
 have:=zj9 h hh (.inl ⟨rfl,hN⟩) 6 v (by omega);rw[zm0 t x v hv,show hstB 1 6 v=true from by unfold hstB;rw[zw5 1 (by decide),wh1.2];simpa using hv]at this;exact this
theorem z1b(h:IsH w q t){a b:Nat}{N M:Nat→Nat}(ha:HeadTo t a 1 5 N 12)(hN:N 0=1)(hb:HeadTo (t.nxt a b) b 1 5 M 12)(hM:M 0=1)(ha4:a<4294967296)(hb4:b<4294967296):Calls prog 135 #[.pointer (some ⟨q.m,0,none⟩),.int .i64 a,.int .i64 b] w fun e w'=>e= .returned (.tuple #[])∧IsH w' q ((t.nxt a b).prv b a)∧Fr q.blocks w w':=by
 have h1:=hstN h ha hN b hb4;have H2:=hid (fun W (hW:IsH W q (t.nxt a b))=>hstP hW hb hM a ha4);have e1:IntKind.u64.wrap (b:Int)=b:=IntWalk.u64_in _ (by omega);have e2:IntKind.u64.wrap (a:Int)=a:=IntWalk.u64_in _ (by omega);clear h ha hb;go_enter func135,ntmps135;go_wp2_with fail;with_reducible refine h1.mono ?_
 rintro e w1 ⟨rfl,k1,f1⟩;have K1:=hid k1;have F1:=hid f1;clear k1 f1 h1;go_wp2_with fail;with_reducible refine(H2.out _ K1.out).mono ?_
 rintro e w2 ⟨rfl,k2,f2⟩;have K2:=hid k2;have F2:=hid (F1.out.trans f2);clear k2 f2;go_wp2_with fail;go_end0;exact⟨rfl,K2.out,F2.out⟩
theorem zto(h:IsH w q t)(d:Int)(n:Nat)(hn:(t.rt 15:Int)+d=n)(hd: -1≤d∧d≤1)(hn4:n<4294967296):Calls prog 138 #[.pointer (some ⟨q.m,0,none⟩),.int .i64 d] w fun e w'=>e= .returned (.tuple #[])∧IsH w' q (t.setRt 15 n)∧Fr q.blocks w w':=by
 have h1:=rlen h;have hlt:=h.ok.rt 15;have e1:IntKind.i64.wrap ((t.rt 15:Int)+d)=n:=by rw[hn];exact i64_in _ (by omega)
 have e2:IntKind.u64.wrap (n:Int)=n:=IntWalk.u64_in _ (by omega);have H2:=hid (fun W (hW:IsH W q t)=>(show Calls prog 83 #[.pointer (some ⟨q.m,0,none⟩),.int .i64 15,.int .u64 n] W fun e w'=>e= .returned (.bool true)∧IsT w' q (t.setRt 15 n)∧Fr q.blocks W w' from zcg hW.m 15 (by omega) n (show n<256^4 by have:(256:Nat)^4=4294967296:=rfl;omega) 15 rfl n rfl));clear h hn hlt;generalize t.rt 15=v at*;go_enter func138,ntmps138;go_wp2_with fail;with_reducible refine h1.mono ?_
 rintro e w1 ⟨rfl,k1,f1⟩;have K1:=hid k1;have F1:=hid f1;clear k1 f1 h1;go_wp2_with fail;with_reducible refine(H2.out _ K1.out).mono ?_
 rintro e w2 ⟨rfl,k2,f2⟩;have K2:=hid (K1.out.step k2 f2);have F2:=hid (F1.out.trans f2);clear k2 f2;go_wp2_with fail;go_end0;exact⟨rfl,K2.out,F2.out⟩
end
section
variable {w : World} {q : MH} {t : TM}
theorem zpr(X:HB)(v:Nat):({X with next:=v}:HB).num=up X.num 5 v:=by
 funext f;unfold up;by_cases h:f=5
 ·subst h;rfl
 ·rw[if_neg h]
  show({X with next:=v}:HB).nums[f]?.getD 0=X.nums[f]?.getD 0;unfold HB.nums;rcases f with _|_|_|_|_|_|f;all_goals first|rfl|(exact absurd rfl h)
theorem zm3(X:HB)(v:Nat):({X with prev:=v}:HB).num=up X.num 6 v:=by
 funext f;unfold up;by_cases h:f=6
 ·subst h;rfl
 ·rw[if_neg h]
  show({X with prev:=v}:HB).nums[f]?.getD 0=X.nums[f]?.getD 0;unfold HB.nums;rcases f with _|_|_|_|_|_|_|f;all_goals first|rfl|(exact absurd rfl h)
structure EntH(t:TM)(x:Nat)(X:HB):Prop where
 h:HeadTo t x 1 5 X.num 12
 ok:X.Ok
 r:X.right=true
 tag:X.tag=1
theorem EntH.n0{x:Nat}{X:HB}(h:EntH t x X):X.num 0=1:=by
 show X.nums[0]?.getD 0=1;unfold HB.nums;rw[h.tag];rfl
theorem zs6(h:IsH w q t){x:Nat}{X:HB}(hx:EntH t x X):Calls prog 133 #[.pointer (some ⟨q.m,0,none⟩),.int .i64 x] w fun e w'=>e= .returned (.int .i64 0)∧IsH w' q t∧Fr q.blocks w w':=by
 have hm:=zyo h.m
 have HG:=hid (fun W (hW:IsH W q t)=>(show Calls prog 117 #[.pointer (some ⟨q.m,0,none⟩),.int .i64 x] W fun e w'=>e= .returned (.tuple #[.agg #[.int .i64 1,.int .i64 X.cls,.bool X.used,.int .i64 X.label,.int .u32 X.name,.int .u32 X.next,.int .u32 X.prev,.int .u32 X.refs,.int .u64 X.expiry,.int .u16 X.typ,.int .i64 X.size,.int .u32 X.hash],.int .i64 0])∧IsH w' q t∧Fr q.blocks W w' from by
  have:=hget W q t hW x 1 5 X hx.h hx.ok hx.r hx.tag (.inl ⟨rfl,hx.n0⟩) (.inl rfl);unfold GetP HB.val HB.cells at this;rw[hx.tag]at this;exact this))
 have H0:=hid h;clear h hx;go_enter func133,ntmps133;go_wp2_with fail;with_reducible refine hm.mono ?_
 rintro e w1 ⟨rfl,f1⟩;have H1:=hid (H0.out.fr0 f1);have F1:=hid (f1.nil (S:=q.blocks));clear hm f1;go_wp2_with fail;with_reducible refine(HG.out _ H1.out).mono ?_
 rintro e w2 ⟨rfl,h2,f2⟩;have H2:=hid h2;have F2:=hid (F1.out.trans f2);clear h2 f2;go_wp2_with fail;go_ret;exact⟨rfl,H2.out.fr0 ((Fr.refl [] w2).alloc _),F2.out.alloc _⟩
end
section
variable {w : World} {q : MH} {t : TM}
def zss(m:Nat):Array Value:= #[.pointer (some ⟨m,0,none⟩),.int .i64 13,.pointer (some ⟨m,0,none⟩),.int .i64 14]
theorem zxj(w:World)(m:Nat):Calls prog 85 #[.pointer (some ⟨m,0,none⟩)] w fun e w'=>∃b,e= .returned (.slice (some ⟨b,0,none⟩) 2 2)∧Blk w' b 146 (zss m)∧w.heap.size≤b∧Fr [] w w':=by
 have HH:=hid (fun W=>zvl W m);have HB:=hid (fun W=>zzs W m);unfold ptV at HH HB;unfold zss;go_enter func85,ntmps85;go_wp2_with fail;with_reducible refine(HH.out _).mono ?_
 rintro e w1 ⟨rfl,f1⟩;go_wp2_with fail;with_reducible refine(HB.out _).mono ?_
 rintro e w2 ⟨rfl,f2⟩;go_wp2_with fail;go_ret;exact⟨_,rfl,Blk.new _ _ _,Nat.le_trans f1.size f2.size,(f1.trans f2).alloc _⟩
theorem zxx(h:IsH w q t):Calls prog 32 #[.pointer (some ⟨q.m,0,none⟩)] w fun e w'=>e= .returned (.int .i64 0)∧IsH w' q (((t.setRt 13 0).setRt 14 0).setRt 15 0)∧Fr q.blocks w w':=by
 have hm:=zyo h.m;have HB:=hid (fun W=>zxj W q.m);unfold zss at HB;have HP:=hid (fun W (u:TM) (hW:IsH W q u)=>And.intro (show Calls prog 86 #[.agg #[.pointer (some ⟨q.m,0,none⟩),.int .i64 13],.int .i64 0] W fun e w'=>e= .returned (.tuple #[])∧IsH w' q (u.setRt 13 0)∧Fr q.blocks W w' from zrb hW 13 (by decide) 0 (by decide)) (show Calls prog 86 #[.agg #[.pointer (some ⟨q.m,0,none⟩),.int .i64 14],.int .i64 0] W fun e w'=>e= .returned (.tuple #[])∧IsH w' q (u.setRt 14 0)∧Fr q.blocks W w' from zrb hW 14 (by decide) 0 (by decide)));have H0:=hid h;clear h;go_enter func32,ntmps32;go_wp2_with fail;with_reducible refine hm.mono ?_
 rintro e w1 ⟨rfl,f1⟩;have H1:=hid (H0.out.fr0 f1);have F1:=hid (f1.nil (S:=q.blocks));clear hm f1;go_wp2_with fail;with_reducible refine(HB.out _).mono ?_
 rintro e w2 ⟨b,rfl,hb,hsz,f2⟩;have H2:=hid (H1.out.fr0 f2);have F2:=hid (F1.out.trans (f2.nil (S:=q.blocks)));have hnb:b∉q.blocks:=fun hk=>Nat.lt_irrefl _ (Nat.lt_of_lt_of_le (H1.out.m.lt b hk) hsz);have hb2:=hb.alloc (.cells #[.pointer (some ⟨q.m,0,none⟩),.int .i64 13] 146);have H3:=hid (H2.out.alloc (.cells #[.pointer (some ⟨q.m,0,none⟩),.int .i64 13] 146));have F3:=hid (F2.out.alloc (.cells #[.pointer (some ⟨q.m,0,none⟩),.int .i64 13] 146));clear f2;have hc0:=hb.cell 0;have hc1:=hb.cell 1;have hc2:=hb.cell 2;have hc3:=hb.cell 3;simp at hc0 hc1 hc2 hc3;go_wp2_with fail;refine wp_loop_rounds 3 ?_;rw[rounds_succ];go_wp2_with fail;with_reducible refine(HP.out _ _ H3.out).1.mono ?_
 rintro e w4 ⟨rfl,h4,f4⟩;have hb4:=hb2.fr f4 hnb;have H4:=hid (h4.alloc (.cells #[.pointer (some ⟨q.m,0,none⟩),.int .i64 14] 146));have F4:=hid ((F3.out.trans f4).alloc (.cells #[.pointer (some ⟨q.m,0,none⟩),.int .i64 14] 146));clear hc0 hc1 hc2 hc3 f4 hb2 h4 hb;have hc0:=hb4.cell 0;have hc1:=hb4.cell 1;have hc2:=hb4.cell 2;have hc3:=hb4.cell 3;simp at hc0 hc1 hc2 hc3;go_wp2_with fail;rw[rounds_succ];go_wp2_with fail;with_reducible refine(HP.out _ _ H4.out).2.mono ?_
 rintro e w5 ⟨rfl,h5,f5⟩;have H5:=hid h5;have F5:=hid (F4.out.trans f5);clear hc0 hc1 hc2 hc3 f5 h5 hb4;go_wp2_with fail;rw[rounds_succ];go_wp2_with fail;with_reducible refine(show Calls prog 83 #[.pointer (some ⟨q.m,0,none⟩),.int .i64 15,.int .u64 0] w5 fun e w'=>e= .returned (.bool true)∧IsT w' q (((t.setRt 13 0).setRt 14 0).setRt 15 0)∧Fr q.blocks w5 w' from zcg H5.out.m 15 (by decide) 0 (by decide) 15 rfl 0 rfl).mono ?_
 rintro e w6 ⟨rfl,h6,f6⟩;have H6:=hid (H5.out.step h6 f6);have F6:=hid (F5.out.trans f6);clear h6 f6;go_wp2_with fail;go_ret;exact⟨rfl,H6.out,F6.out⟩
end
section
variable {t : TM}
def TM.rnm(t:TM)(fr to:Nat):TM:=if t.rt 14=fr then(if t.rt 13=fr then t.setRt 13 to else t).setRt 14 to else(if t.rt 13=fr then t.setRt 13 to else t)
end
section
variable {t u : TM}
theorem HeadTo.out{x tag kind:Nat}{N:Nat→Nat}{m y n:Nat}(h:HeadTo t x tag kind N m)(ha:u.a=t.a)(hs:u.s=t.s)(o:Out t u y n)(hd:x+32≤y∨y+n≤x)(hm:m≤12):HeadTo u x tag kind N m:=by
 have z:=zec tag h.tg;have al:=h.al;have hb:=h.base;refine⟨h.tg,by rw[ha,hs];exact h.base,h.al,by rw[ha,hs];exact h.fit,h.k0,fun g g1 g2=> ?_,fun f hf h0 j hj=> ?_,h.lt⟩
 ·rw[o.kd_ g (by omega) (by omega)];exact h.kinds g g1 g2
 ·have wk:=zgt tag f h.tg (by omega) h0
  rw[o.by_ _ (by omega) (by omega)];exact h.byte f hf h0 j hj
theorem zp9(X:HB)(ht:X.tag=1)(v:Nat):({X with next:=v}:HB).right=X.right:=by
 unfold HB.right;have hw:((whZ X.tag 5).2==0)=false:=by rw[ht];rfl
 have hw':((whZ X.tag (5:Nat)).2==0)=false:=hw
 have:({X with next:=v}:HB).lackTo 12=X.lackTo 12:=by
  simp only[HB.lackTo];unfold HB.lackAt;rw[zpr];simp only[up,hw,hw',Bool.and_false];simp[hw,hw']
 rw[this]
theorem zow(X:HB)(ht:X.tag=1)(v:Nat):({X with prev:=v}:HB).right=X.right:=by
 unfold HB.right;have hw:((whZ X.tag 6).2==0)=false:=by rw[ht];rfl
 have hw':((whZ X.tag (6:Nat)).2==0)=false:=hw
 have:({X with prev:=v}:HB).lackTo 12=X.lackTo 12:=by
  simp only[HB.lackTo];unfold HB.lackAt;rw[zm3];simp only[up,hw,hw',Bool.and_false];simp[hw,hw']
 rw[this]
theorem EntH.nxt{x:Nat}{X:HB}(h:EntH t x X)(hok:t.Ok)(v:Nat)(hv:v<4294967296):EntH (t.nxt x v) x {X with next:=v}:=
 ⟨by rw[zpr];exact(h.h.nxt hok v hv).1,⟨h.ok.tag,h.ok.cls,h.ok.label,h.ok.name,hv,h.ok.prev,h.ok.refs,h.ok.expiry,h.ok.typ,h.ok.size,h.ok.hash⟩,by rw[zp9 X h.tag];exact h.r,h.tag⟩
theorem EntH.prv{x:Nat}{X:HB}(h:EntH t x X)(hok:t.Ok)(v:Nat)(hv:v<4294967296):EntH (t.prv x v) x {X with prev:=v}:=
 ⟨by rw[zm3];exact(h.h.prv hok v hv).1,⟨h.ok.tag,h.ok.cls,h.ok.label,h.ok.name,h.ok.next,hv,h.ok.refs,h.ok.expiry,h.ok.typ,h.ok.size,h.ok.hash⟩,by rw[zow X h.tag];exact h.r,h.tag⟩
theorem EntH.out{x:Nat}{X:HB}{y n:Nat}(h:EntH t x X)(ha:u.a=t.a)(hs:u.s=t.s)(o:Out t u y n)(hd:x+32≤y∨y+n≤x):EntH u x X:=
 ⟨h.h.out ha hs o hd (Nat.le_refl _),h.ok,h.r,h.tag⟩
theorem EntH.lt{x:Nat}{X:HB}(h:EntH t x X)(hok:t.Ok):x<1048576∧240≤x:=by
 have hc:=zak hok.cfg;have hb:=h.h.base;have hf:=h.h.fit;have z:=zec 1 (by decide);have:=zbc hok 0 (by have:=hok.cfg.a1;omega);omega
structure Ents(t:TM)(L:Nat→Prop)(E:Nat→HB):Prop where
 ok:t.Ok
 e: ∀x,L x→EntH t x (E x)
 ap: ∀x y,L x→L y→x≠y→x+32≤y∨y+32≤x
variable {L : Nat → Prop} {E : Nat → HB}
def nxE(E:Nat→HB)(x v:Nat):Nat→HB:=up E x {E x with next:=v}
def pvE(E:Nat→HB)(x v:Nat):Nat→HB:=up E x {E x with prev:=v}
theorem Ents.nxt(h:Ents t L E){x:Nat}(hx:L x)(v:Nat)(hv:v<4294967296):Ents (t.nxt x v) L (nxE E x v):=by
 have hX:=h.e x hx;have hb:=hX.h.base;refine⟨(hX.h.nxt h.ok v hv).2,fun y hy=> ?_,h.ap⟩;by_cases hyx:y=x
 ·subst hyx;unfold nxE;rw[zaa];exact hX.nxt h.ok v hv
 ·unfold nxE;rw[zac _ _ hyx]
  have:=h.ap y x hy hx hyx;exact(h.e y hy).out rfl rfl (zay h.ok (x+8) 4 v (by omega)) (by omega)
theorem Ents.prv(h:Ents t L E){x:Nat}(hx:L x)(v:Nat)(hv:v<4294967296):Ents (t.prv x v) L (pvE E x v):=by
 have hX:=h.e x hx;have hb:=hX.h.base;refine⟨(hX.h.prv h.ok v hv).2,fun y hy=> ?_,h.ap⟩;by_cases hyx:y=x
 ·subst hyx;unfold pvE;rw[zaa];exact hX.prv h.ok v hv
 ·unfold pvE;rw[zac _ _ hyx]
  have:=h.ap y x hy hx hyx;exact(h.e y hy).out rfl rfl (zay h.ok (x+12) 4 v (by omega)) (by omega)
end
section
variable {E E' : Nat → HB}
def Lnk(E:Nat→HB)(x y:Nat):Prop:=(E x).next=y∧(E y).prev=x
def Seg(E:Nat→HB):Nat→List Nat→Nat→Prop
 |a,[],z=>Lnk E a z
 |a,y::l,z=>Lnk E a y∧Seg E y l z
def Cyc(E:Nat→HB):List Nat→Prop
 | [] =>True
 |h::l=>Seg E h l h
theorem znw(E:Nat→HB):∀(A:List Nat) (a x:Nat) (B:List Nat) (z:Nat),Seg E a (A++x::B) z↔Seg E a A x∧Seg E x B z:=by
 intro A;induction A with
 |nil=>intro a x B z;exact Iff.rfl
 |cons y A ih=>intro a x B z;show Lnk E a y∧Seg E y (A++x::B) z↔(Lnk E a y∧Seg E y A x)∧Seg E x B z;rw[ih,and_assoc]
theorem zrf(E:Nat→HB)(h:Nat)(l:List Nat):Cyc E (h::l)↔Cyc E (l++ [h]):=by
 cases l with
 |nil=>exact Iff.rfl
 |cons y l=>show Lnk E h y∧Seg E y l h↔Seg E y (l++ [h]) y;rw[znw];exact and_comm
theorem zv4(E:Nat→HB):∀(A B:List Nat),Cyc E (A++B)↔Cyc E (B++A):=by
 intro A;induction A with
 |nil=>intro B;rw[List.append_nil];exact Iff.rfl
 |cons x A ih=>intro B;rw[List.cons_append,zrf,List.append_assoc,ih,List.append_assoc];exact Iff.rfl
theorem Seg.same:∀{l:List Nat} {a z:Nat},Seg E a l z→(∀x,x=a∨x∈l→(E' x).next=(E x).next)→(∀x,x∈l∨x=z→(E' x).prev=(E x).prev)→Seg E' a l z:=by
 intro l;induction l with
 |nil=>intro a z h hn hp;exact⟨by rw[hn a (.inl rfl)];exact h.1,by rw[hp z (.inr rfl)];exact h.2⟩
 |cons y l ih=>
  intro a z h hn hp;refine⟨⟨by rw[hn a (.inl rfl)];exact h.1.1,by rw[hp y (.inl (List.mem_cons_self ..))];exact h.1.2⟩,ih h.2 (fun x hx=>hn x (.inr ?_)) (fun x hx=>hp x ?_)⟩
  ·rcases hx with rfl|hx
   ·exact List.mem_cons_self ..
   ·exact List.mem_cons_of_mem _ hx
  ·rcases hx with hx|rfl
   ·exact .inl (List.mem_cons_of_mem _ hx)
   ·exact .inr rfl
theorem Cyc.same{R:List Nat}(h:Cyc E R)(he:∀x∈R,(E' x).next=(E x).next∧(E' x).prev=(E x).prev):Cyc E' R:=by
 cases R with
 |nil=>trivial
 |cons a l=>
  refine Seg.same h (fun x hx=>(he x ?_).1) (fun x hx=>(he x ?_).2)
  ·rcases hx with rfl|hx
   ·exact List.mem_cons_self ..
   ·exact List.mem_cons_of_mem _ hx
  ·rcases hx with hx|rfl
   ·exact List.mem_cons_of_mem _ hx
   ·exact List.mem_cons_self ..
theorem Seg.nx:∀{l:List Nat} {a z:Nat},Seg E a l z→(E a).next=l.headD z:=by
 intro l a z h;cases l with
 |nil=>exact h.1
 |cons y l=>exact h.1.1
theorem Seg.pv:∀{l:List Nat} {a z:Nat},Seg E a l z→(E z).prev=(a::l).getLast (List.cons_ne_nil _ _):=by
 intro l;induction l with
 |nil=>intro a z h;exact h.2
 |cons y l ih=>intro a z h;rw[ih h.2,List.getLast_cons (List.cons_ne_nil _ _)]
def jnE(E:Nat→HB)(a b:Nat):Nat→HB:=pvE (nxE E a b) b a
theorem zc0(E:Nat→HB)(a b x:Nat):(jnE E a b x).next=if x=a then b else(E x).next:=by
 unfold jnE pvE nxE up;by_cases h1:x=b
 ·subst h1;rw[if_pos rfl]
  show(if x=a then({E a with next:=x}:HB)else E x).next=_;by_cases h2:x=a
  ·rw[if_pos h2,if_pos h2]
  ·rw[if_neg h2,if_neg h2]
 ·rw[if_neg h1]
  by_cases h2:x=a
  ·rw[if_pos h2,if_pos h2]
  ·rw[if_neg h2,if_neg h2]
theorem zcx(E:Nat→HB)(a b x:Nat):(jnE E a b x).prev=if x=b then a else(E x).prev:=by
 unfold jnE pvE nxE up;by_cases h1:x=b
 ·rw[if_pos h1,if_pos h1]
 ·rw[if_neg h1,if_neg h1]
  by_cases h2:x=a
  ·rw[if_pos h2,h2]
  ·rw[if_neg h2]
theorem zqt(E:Nat→HB):∀{l:List Nat} {a z:Nat},Seg E a l z→(a::l).Nodup→∀y,y∉l→Seg (jnE E ((a::l).getLast (List.cons_ne_nil _ _)) y) a l y:=by
 intro l;induction l with
 |nil=>intro a z h _ y _;exact⟨by rw[zc0];exact if_pos rfl,by rw[zcx];exact if_pos rfl⟩
 |cons b l ih=>
  intro a z h hn y hy;have hn':=List.nodup_cons.1 hn;have hab:a≠(b::l).getLast (List.cons_ne_nil _ _):=fun e=>hn'.1 (e▸List.getLast_mem _);have hby:b≠y:=fun e=>hy (e▸List.mem_cons_self ..);refine⟨⟨?_,?_⟩,?_⟩
  ·rw[List.getLast_cons (List.cons_ne_nil _ _),zc0,if_neg hab];exact h.1.1
  ·rw[List.getLast_cons (List.cons_ne_nil _ _),zcx,if_neg hby];exact h.1.2
  ·rw[List.getLast_cons (List.cons_ne_nil _ _)]
   exact ih h.2 hn'.2 y (fun m=>hy (List.mem_cons_of_mem _ m))
end
section
variable {t u : TM} {L : Nat → Prop} {E : Nat → HB} {R : List Nat} {b : Nat}
theorem Ents.join(h:Ents t L E){a c:Nat}(ha:L a)(hc:L c):Ents ((t.nxt a c).prv c a) L (jnE E a c):=by
 have l1:=(h.e a ha).lt h.ok;have l2:=(h.e c hc).lt h.ok;exact(h.nxt ha c (by omega)).prv hc a (by omega)
theorem EntH.same{x:Nat}{X:HB}(h:EntH t x X)(ha:u.a=t.a)(hs:u.s=t.s)(o:Out t u x 0):EntH u x X:=by
 refine⟨⟨h.h.tg,by rw[ha,hs];exact h.h.base,h.h.al,by rw[ha,hs];exact h.h.fit,h.h.k0,fun g g1 g2=> ?_,fun f hf h0 j hj=> ?_,h.h.lt⟩,h.ok,h.r,h.tag⟩
 ·have hb:=h.h.base
  have al:=h.h.al;rw[o.kd_ g (by omega) (by omega)];exact h.h.kinds g g1 g2
 ·have hb:=h.h.base
  rw[o.by_ _ (by omega) (by omega)];exact h.h.byte f hf h0 j hj
theorem Ents.setRt(h:Ents t L E)(f v:Nat)(hv:v<256^fldW f):Ents (t.setRt f v) L E:=
 ⟨za5 h.ok f v hv,fun x hx=>(h.e x hx).same rfl rfl (zcu h.ok f v hv x 0),h.ap⟩
theorem zgw:∀(N:Nat) (l:List Nat),l.Nodup→(∀x∈l,x<N)→l.length≤N:=by
 intro N;induction N with
 |zero=>intro l _ h;cases l with
  |nil=>exact Nat.le_refl _
  |cons a l=>exact absurd (h a (List.mem_cons_self ..)) (Nat.not_lt_zero _)
 |succ N ih=>
  intro l hn h
  have h1:=ih (l.erase N) (hn.erase N) (fun x hx=>by
   have h2:=h x (List.mem_of_mem_erase hx);have h3:x≠N:=fun e=>by subst e;exact hn.not_mem_erase hx
   omega)
  have:=List.length_erase_le (a:=N) (l:=l);by_cases hm:N∈l
  ·have:=List.length_erase_of_mem hm
   omega
  ·rw[List.erase_of_not_mem hm]at h1
   omega
structure RgI(t:TM)(L:Nat→Prop)(E:Nat→HB)(R:List Nat)(b:Nat):Prop where
 ents:Ents t L E
 sub: ∀x∈R,L x
 nd:R.Nodup
 hand:t.rt 13=R.headD 0
 broom:t.rt 14=b
 cnt:t.rt 15=R.length
 bin:R≠ [] →b∈R
 bnil:R= [] →b=0
 cyc:Cyc E R
 out: ∀x,L x→x∉R→(E x).next=0∧(E x).prev=0
theorem RgI.ne0(h:RgI t L E R b){x:Nat}(hx:L x):x≠0:=by
 have:=(h.ents.e x hx).lt h.ents.ok;omega
theorem zof{A B:List Nat}{x:Nat}(h:Cyc E (A++x::B)):(E x).next=(B++A).headD x∧(E x).prev=(x::(B++A)).getLast (List.cons_ne_nil _ _):=by
 rw[zv4]at h;exact⟨Seg.nx (l:=B++A) h,Seg.pv (l:=B++A) h⟩
theorem RgI.nx0(h:RgI t L E R b){x:Nat}(hx:L x):(E x).next=0↔x∉R:=by
 constructor
 ·intro h0 hm
  obtain⟨A,B,rfl⟩:=List.append_of_mem hm;have:=(zof h.cyc).1;rw[h0]at this;cases hc:B++A with
  |nil=>rw[hc]at this;exact h.ne0 hx this.symm
  |cons n C=>
   rw[hc]at this;have hn:n∈B++A:=hc▸List.mem_cons_self ..;have hL:L n:=h.sub n (List.mem_append.2 ((List.mem_append.1 hn).elim (fun q=> .inr (List.mem_cons_of_mem _ q)) .inl));exact h.ne0 hL this.symm
 ·intro hm
  exact(h.out x hx hm).1
theorem RgI.ins0(h:RgI t L E [] b){x:Nat}(hx:L x):RgI (((((t.nxt x x).prv x x).setRt 13 x).setRt 14 x).setRt 15 1) L (jnE E x x) [x] x:=by
 have l1:=(h.ents.e x hx).lt h.ents.ok;have w4:∀f,1048576≤256^fldW f:=fun f=>by rcases zhc f with e|e<;>rw[e] <;>decide
 have e1:=(((h.ents.join hx hx).setRt 13 x (by have:=w4 13;omega)).setRt 14 x (by have:=w4 14;omega)).setRt 15 1 (by have:=w4 15;omega);refine⟨e1,fun y hy=>by rw[List.mem_singleton.1 hy];exact hx,List.pairwise_singleton _ _,rfl,rfl,rfl,fun _=>List.mem_singleton.2 rfl,fun e=>(nomatch e),?_,fun y hy hn=> ?_⟩
 ·exact⟨by rw[zc0];exact if_pos rfl,by rw[zcx];exact if_pos rfl⟩
 ·have hne:y≠x:=fun e=>hn (List.mem_singleton.2 e)
  rw[zc0,zcx,if_neg hne,if_neg hne];exact h.out y hy (fun m=>nomatch m)
theorem RgI.ins(h:RgI t L E R b)(h0:R≠ []){x:Nat}(hx:L x)(hn:x∉R):RgI (((((t.nxt (E (R.headD 0)).prev x).prv x (E (R.headD 0)).prev).nxt x (R.headD 0)).prv (R.headD 0) x).setRt 15 (R.length+1)) L (jnE (jnE E (E (R.headD 0)).prev x) x (R.headD 0)) (R++ [x]) b:=by
 cases R with
 |nil=>exact absurd rfl h0
 |cons a T=>
  have hp:(E a).prev=(a::T).getLast (List.cons_ne_nil _ _):=Seg.pv (l:=T) h.cyc;show RgI (((((t.nxt (E a).prev x).prv x (E a).prev).nxt x a).prv a x).setRt 15 (T.length+1+1)) L (jnE (jnE E (E a).prev x) x a) (a::T++ [x]) b;have hpm:(E a).prev∈a::T:=hp▸List.getLast_mem _;have hx1:x≠a:=fun e=>hn (e▸List.mem_cons_self ..);have hx2:x∉T:=fun m=>hn (List.mem_cons_of_mem _ m);have hnd:=List.nodup_cons.1 h.nd
  have hlen:T.length+2<4294967296:=by
   have:=zgw 1048576 _ h.nd (fun y hy=>((h.ents.e y (h.sub y hy)).lt h.ents.ok).1);rw[List.length_cons]at this;omega
  have w15:256^fldW 15=4294967296:=rfl;have e1:=((h.ents.join (h.sub _ hpm) hx).join hx (h.sub a (List.mem_cons_self ..))).setRt 15 (T.length+1+1) (by omega);refine⟨e1,fun y hy=> ?_,?_,h.hand,h.broom,by show T.length+1+1=(T++ [x]).length+1;rw[List.length_append];rfl,fun _=>List.mem_append.2 (.inl (h.bin (List.cons_ne_nil _ _))),fun e=>(nomatch e),?_,fun y hy hm=> ?_⟩
  ·rcases List.mem_append.1 hy with m|m
   ·exact h.sub y m
   ·rw[List.mem_singleton.1 m];exact hx
  ·refine List.nodup_append.2 ⟨h.nd,List.pairwise_singleton _ _,fun y hy z hz e=> ?_⟩
   rw[List.mem_singleton.1 hz]at e;exact hn (e▸hy)
  ·have s1:Seg (jnE E (E a).prev x) a T x:=by rw[hp];exact zqt E h.cyc h.nd x hx2
   show Seg _ a (T++x:: []) a;rw[znw];refine⟨Seg.same s1 (fun y hy=> ?_) (fun y hy=> ?_),by rw[zc0];exact if_pos rfl,by rw[zcx];exact if_pos rfl⟩
   ·rw[zc0,if_neg]
    rintro rfl;rcases hy with e|m
    ·exact hx1 e
    ·exact hx2 m
   ·rw[zcx,if_neg]
    rintro rfl;rcases hy with m|e
    ·exact hnd.1 m
    ·exact hx1 e.symm
  ·have m1:y∉a::T:=fun m=>hm (List.mem_append.2 (.inl m))
   have m2:y≠x:=fun e=>hm (List.mem_append.2 (.inr (List.mem_singleton.2 e)));have m3:y≠(E a).prev:=fun e=>m1 (e▸hpm);have m4:y≠a:=fun e=>m1 (e▸List.mem_cons_self ..);rw[zc0,zcx,if_neg m2,if_neg m4,zc0,zcx,if_neg m3,if_neg m2];exact h.out y hy m1
end
section
variable {t : TM}
def TM.rem(t:TM)(x n p to:Nat)(k:Nat):TM:=((((((t.rnm x to).nxt p n).prv n p).nxt x 0).prv x 0)).setRt 15 k
end
section
variable {w : World} {q : MH} {t : TM} {L : Nat → Prop} {E : Nat → HB} {R : List Nat} {b : Nat}
theorem zxt(h:IsH w q t)(g:Ents t L E){x:Nat}(hx:L x):Calls prog 132 #[.pointer (some ⟨q.m,0,none⟩),.int .i64 x] w fun e w'=>e= .returned (.int .i64 (E x).next)∧IsH w' q t∧Fr q.blocks w w':=
 z0w h (g.e x hx).h (g.e x hx).n0 (by rw[wh1.1])
theorem z0h(h:IsH w q t)(g:Ents t L E){x:Nat}(hx:L x):Calls prog 136 #[.pointer (some ⟨q.m,0,none⟩),.int .i64 x] w fun e w'=>e= .returned (.int .i64 (E x).prev)∧IsH w' q t∧Fr q.blocks w w':=
 z1t h (g.e x hx).h (g.e x hx).n0 (by rw[wh1.2])
theorem zvm(h:IsH w q t)(g:Ents t L E){a c:Nat}(ha:L a)(hc:L c):Calls prog 135 #[.pointer (some ⟨q.m,0,none⟩),.int .i64 a,.int .i64 c] w fun e w'=>e= .returned (.tuple #[])∧IsH w' q ((t.nxt a c).prv c a)∧Fr q.blocks w w':=by
 have l1:=(g.e a ha).lt g.ok;have l2:=(g.e c hc).lt g.ok;have g1:=(g.nxt ha c (by omega)).e c hc;exact z1b h (g.e a ha).h (g.e a ha).n0 g1.h g1.n0 (by omega) (by omega)
theorem zy1(h:IsH w q t)(g:RgI t L E R b)(h0:R≠ []){x:Nat}(hx:L x)(hm:x∉R):Calls prog 92 #[.pointer (some ⟨q.m,0,none⟩),.int .i64 x] w fun e w'=>e= .returned (.int .i64 0)∧IsH w' q (((((t.nxt (E (R.headD 0)).prev x).prv x (E (R.headD 0)).prev).nxt x (R.headD 0)).prv (R.headD 0) x).setRt 15 (R.length+1))∧Fr q.blocks w w':=by
 have HE:=zs6 h (g.ents.e x hx)
 have HN:=hid (fun W (hW:IsH W q t)=>(show Calls prog 132 #[.pointer (some ⟨q.m,0,none⟩),.int .i64 x] W fun e w'=>e= .returned (.int .i64 0)∧IsH w' q t∧Fr q.blocks W w' from by
  have:=zxt hW g.ents hx;rw[(g.nx0 hx).2 hm]at this;exact this))
 obtain⟨a,ha⟩:∃a,a=R.headD 0:=⟨_,rfl⟩
 have haR:a∈R:=by
  cases R with
  |nil=>exact absurd rfl h0
  |cons y T=>rw[ha];exact List.mem_cons_self ..
 have haL:=g.sub a haR
 have hpL:L (E a).prev:=by
  obtain⟨A,B,hAB⟩:=List.append_of_mem haR;have hc:=g.cyc;rw[hAB]at hc;rw[(zof hc).2];have:=List.getLast_mem (l:=a::(B++A)) (List.cons_ne_nil _ _);rcases List.mem_cons.1 this with e|m
  ·rw[e];exact haL
  ·refine g.sub _ ?_
   rw[hAB];rcases List.mem_append.1 m with m|m
   ·exact List.mem_append.2 (.inr (List.mem_cons_of_mem _ m))
   ·exact List.mem_append.2 (.inl m)
 rw[←ha];have ha0:¬((a:Int)=0):=by have:=g.ne0 haL;omega
 have HH:=hid (fun W=>zvl W q.m);unfold ptV at HH
 have HA:=hid (fun W (hW:IsH W q t)=>(show Calls prog 183 #[.agg #[.pointer (some ⟨q.m,0,none⟩),.int .i64 13]] W fun e w'=>e= .returned (.int .i64 a)∧IsH w' q t∧Fr q.blocks W w' from by
  have:=rpat hW 13 (by decide);rw[g.hand,←ha]at this;exact this))
 have HP:=hid (fun W (hW:IsH W q t)=>z0h hW g.ents haL);have HJ:=hid (fun W (hW:IsH W q t)=>zvm hW g.ents hpL hx);have HK:=hid (fun W hW=>zvm (w:=W) (q:=q) hW (g.ents.join hpL hx) hx haL);have hlen:=zgw 1048576 _ g.nd (fun y hy=>((g.ents.e y (g.sub y hy)).lt g.ents.ok).1);have HC:=hid (fun W (hW:IsH W q ((((t.nxt (E a).prev x).prv x (E a).prev).nxt x a).prv a x))=>(show Calls prog 138 #[.pointer (some ⟨q.m,0,none⟩),.int .i64 1] W fun e w'=>e= .returned (.tuple #[])∧IsH w' q (((((t.nxt (E a).prev x).prv x (E a).prev).nxt x a).prv a x).setRt 15 (R.length+1))∧Fr q.blocks W w' from zto hW 1 (R.length+1) (by show((t.rt 15:Nat):Int)+1=_;rw[g.cnt];omega) (by omega) (by omega)));have H0:=hid h;clear g h hlen hpL haL haR ha;generalize(E a).prev=p at*;go_enter func92,ntmps92;go_wp2_with fail;with_reducible refine HE.mono ?_
 rintro e w1 ⟨rfl,h1,f1⟩;have H1:=hid h1;have F1:=hid (f1);clear h1 f1;go_wp2_with fail;with_reducible refine(HN.out _ H1.out).mono ?_
 rintro e w2 ⟨rfl,h2,f2⟩;have H2:=hid h2;have F2:=hid (F1.out.trans f2);clear h2 f2;go_wp2_with fail;with_reducible refine(HH.out _).mono ?_
 rintro e w3 ⟨rfl,f3⟩;have H3:=hid (H2.out.fr0 f3);have F3:=hid (F2.out.trans (f3.nil (S:=q.blocks)));clear f3;go_wp2_with fail;with_reducible refine(HA.out _ H3.out).mono ?_
 rintro e w4 ⟨rfl,h4,f4⟩;have H4:=hid h4;have F4:=hid (F3.out.trans f4);clear h4 f4;go_wp2_with fail;with_reducible refine(HP.out _ H4.out).mono ?_
 rintro e w5 ⟨rfl,h5,f5⟩;have H5:=hid h5;have F5:=hid (F4.out.trans f5);clear h5 f5;go_wp2_with fail;with_reducible refine(HJ.out _ H5.out).mono ?_
 rintro e w6 ⟨rfl,h6,f6⟩;have H6:=hid h6;have F6:=hid (F5.out.trans f6);clear h6 f6;go_wp2_with fail;with_reducible refine(HK.out _ H6.out).mono ?_
 rintro e w7 ⟨rfl,h7,f7⟩;have H7:=hid h7;have F7:=hid (F6.out.trans f7);clear h7 f7;go_wp2_with fail;with_reducible refine(HC.out _ H7.out).mono ?_
 rintro e w8 ⟨rfl,h8,f8⟩;have H8:=hid h8;have F8:=hid (F7.out.trans f8);clear h8 f8;go_wp2_with fail;go_ret;exact⟨rfl,H8.out,F8.out⟩
theorem zyl(h:IsH w q t)(g:RgI t L E [] b){x:Nat}(hx:L x):Calls prog 92 #[.pointer (some ⟨q.m,0,none⟩),.int .i64 x] w fun e w'=>e= .returned (.int .i64 0)∧IsH w' q (((((t.nxt x x).prv x x).setRt 13 x).setRt 14 x).setRt 15 1)∧Fr q.blocks w w':=by
 have HE:=zs6 h (g.ents.e x hx);have lx:=(g.ents.e x hx).lt g.ents.ok
 have HN:=hid (fun W (hW:IsH W q t)=>(show Calls prog 132 #[.pointer (some ⟨q.m,0,none⟩),.int .i64 x] W fun e w'=>e= .returned (.int .i64 0)∧IsH w' q t∧Fr q.blocks W w' from by
  have:=zxt hW g.ents hx;rw[(g.nx0 hx).2 (fun m=>nomatch m)]at this;exact this))
 have HH:=hid (fun W=>zvl W q.m);have HB:=hid (fun W=>zxj W q.m);unfold ptV at HH;unfold zss at HB
 have HA:=hid (fun W (hW:IsH W q t)=>(show Calls prog 183 #[.agg #[.pointer (some ⟨q.m,0,none⟩),.int .i64 13]] W fun e w'=>e= .returned (.int .i64 0)∧IsH w' q t∧Fr q.blocks W w' from by
  have:=rpat hW 13 (by decide);rw[g.hand]at this;exact this))
 have HJ:=hid (fun W (hW:IsH W q t)=>zvm hW g.ents hx hx);have HS13:=hid (fun W (hW:IsH W q ((t.nxt x x).prv x x))=>(show Calls prog 86 #[.agg #[.pointer (some ⟨q.m,0,none⟩),.int .i64 13],.int .i64 x] W fun e w'=>e= .returned (.tuple #[])∧IsH w' q (((t.nxt x x).prv x x).setRt 13 x)∧Fr q.blocks W w' from zrb hW 13 (by decide) x (by omega)));have HS14:=hid (fun W (hW:IsH W q (((t.nxt x x).prv x x).setRt 13 x))=>(show Calls prog 86 #[.agg #[.pointer (some ⟨q.m,0,none⟩),.int .i64 14],.int .i64 x] W fun e w'=>e= .returned (.tuple #[])∧IsH w' q ((((t.nxt x x).prv x x).setRt 13 x).setRt 14 x)∧Fr q.blocks W w' from zrb hW 14 (by decide) x (by omega)));have HC:=hid (fun W (hW:IsH W q ((((t.nxt x x).prv x x).setRt 13 x).setRt 14 x))=>(show Calls prog 138 #[.pointer (some ⟨q.m,0,none⟩),.int .i64 1] W fun e w'=>e= .returned (.tuple #[])∧IsH w' q (((((t.nxt x x).prv x x).setRt 13 x).setRt 14 x).setRt 15 1)∧Fr q.blocks W w' from zto hW 1 1 (by show((t.rt 15:Nat):Int)+1=_;rw[g.cnt];rfl) (by omega) (by omega)));have H0:=hid h;clear g h lx;go_enter func92,ntmps92;go_wp2_with fail;with_reducible refine HE.mono ?_
 rintro e w1 ⟨rfl,h1,f1⟩;have H1:=hid h1;have F1:=hid (f1);clear h1 f1;go_wp2_with fail;with_reducible refine(HN.out _ H1.out).mono ?_
 rintro e w2 ⟨rfl,h2,f2⟩;have H2:=hid h2;have F2:=hid (F1.out.trans f2);clear h2 f2;go_wp2_with fail;with_reducible refine(HH.out _).mono ?_
 rintro e w3 ⟨rfl,f3⟩;have H3:=hid (H2.out.fr0 f3);have F3:=hid (F2.out.trans (f3.nil (S:=q.blocks)));clear f3;go_wp2_with fail;with_reducible refine(HA.out _ H3.out).mono ?_
 rintro e w4 ⟨rfl,h4,f4⟩;have H4:=hid h4;have F4:=hid (F3.out.trans f4);clear h4 f4;go_wp2_with fail;with_reducible refine(HJ.out _ H4.out).mono ?_
 rintro e w5 ⟨rfl,h5,f5⟩;have H5:=hid h5;have F5:=hid (F4.out.trans f5);clear h5 f5;go_wp2_with fail;with_reducible refine(HB.out _).mono ?_
 rintro e w6 ⟨b6,rfl,hb,hsz,f6⟩;have H6:=hid (H5.out.fr0 f6);have F6:=hid (F5.out.trans (f6.nil (S:=q.blocks)));have hnb:b6∉q.blocks:=fun hk=>Nat.lt_irrefl _ (Nat.lt_of_lt_of_le (H5.out.m.lt b6 hk) hsz);have hb2:=hb.alloc (.cells #[.pointer (some ⟨q.m,0,none⟩),.int .i64 13] 146);have H7:=hid (H6.out.alloc (.cells #[.pointer (some ⟨q.m,0,none⟩),.int .i64 13] 146));have F7:=hid (F6.out.alloc (.cells #[.pointer (some ⟨q.m,0,none⟩),.int .i64 13] 146));clear f6;have hc0:=hb.cell 0;have hc1:=hb.cell 1;have hc2:=hb.cell 2;have hc3:=hb.cell 3;simp at hc0 hc1 hc2 hc3;go_wp2_with fail;refine wp_loop_rounds 3 ?_;rw[rounds_succ];go_wp2_with fail;with_reducible refine(HS13.out _ H7.out).mono ?_
 rintro e w8 ⟨rfl,h8,f8⟩;have hb4:=hb2.fr f8 hnb;have H8:=hid (h8.alloc (.cells #[.pointer (some ⟨q.m,0,none⟩),.int .i64 14] 146));have F8:=hid ((F7.out.trans f8).alloc (.cells #[.pointer (some ⟨q.m,0,none⟩),.int .i64 14] 146));clear hc0 hc1 hc2 hc3 f8 hb2 h8 hb;have hc0:=hb4.cell 0;have hc1:=hb4.cell 1;have hc2:=hb4.cell 2;have hc3:=hb4.cell 3;simp at hc0 hc1 hc2 hc3;go_wp2_with fail;rw[rounds_succ];go_wp2_with fail;with_reducible refine(HS14.out _ H8.out).mono ?_
 rintro e w9 ⟨rfl,h9,f9⟩;have H9:=hid h9;have F9:=hid (F8.out.trans f9);clear hc0 hc1 hc2 hc3 f9 h9 hb4;go_wp2_with fail;rw[rounds_succ];go_wp2_with fail;with_reducible refine(HC.out _ H9.out).mono ?_
 rintro e w10 ⟨rfl,h10,f10⟩;have H10:=hid h10;have F10:=hid (F9.out.trans f10);clear h10 f10;go_wp2_with fail;go_ret;exact⟨rfl,H10.out,F10.out⟩
end
section
end
section
variable {t u : TM} {S : SS} {x n : Nat}
theorem LS.same'{inn:Nat→Int}(h:LS t inn)(ha:u.a=t.a)(hr:∀c,c≤9→u.rt (3+c)=t.rt (3+c))(hh:∀y r,r=3∨r=4→u.hd y r=t.hd y r):LS u inn:=by
 refine⟨fun c hc=> ?_,fun x hx hn=> ?_,fun x hx=>h.le x (by rw[←ha];exact hx)⟩
 ·rw[ha,hr c hc]
  exact Lk.same (t:=t) (u:=u) ha (h.ln c hc) (fun y _=>⟨hh y 3 (.inl rfl),hh y 4 (.inr rfl)⟩)
 ·rw[hh x 3 (.inl rfl),hh x 4 (.inr rfl)];exact h.out x (by rw[←ha];exact hx) hn
theorem SlI.inner(hs:SlI t S)(hok:t.Ok)(h:Lv t.a S x n)(ea:u.a=t.a)(es:u.s=t.s)(er:∀c,c≤9→u.rt (3+c)=t.rt (3+c))(eh:u.hd=t.hd)(ek:u.kd=t.kd)(o0:Out t u x n):SlI u S:=by
 obtain⟨b1,b2,b3,b4,b5,b6,b7⟩:=zi2 hs hok h;obtain⟨i,hi,hx,rfl⟩:=h;have e1:=hs.each i hi;have h0:=e1.none (.inr hx);obtain⟨a1,a2,a3,a4,a5,a6,a7⟩:=e1.at_ hok hi (.inr hx);obtain⟨c1,c2,c3,c4,c5,c6,c7⟩:=zai (S.cls i) (by omega) e1.c9;obtain⟨z1,z2,z3,z4,z5⟩:=zbc hok i hi;have hkd:∀g,zan u g=zan t g:=fun g=>by unfold zan;rw[ea,es,ek]
 have hK:∀{y m k:Nat},KdOn t y m k→KdOn u y m k:=fun hk g g1 g2=>by rw[hkd];exact hk g g1 g2
 have hsla:∀j,sla u j=sla t j:=zbl ea es;refine⟨hs.ls.same' ea er (fun _ _ _=>by rw[eh]),fun j hj=> ?_⟩;have hj':j<t.a:=by rw[←ea];exact hj
 by_cases e:j=i
 ·subst e
  refine⟨by rw[eh];exact e1.h0,by rw[eh];exact e1.h1,by rw[eh];exact e1.h2,e1.c9,fun e=>absurd e h0,fun h0=> ?_,e1.so,fun y hy=>hK (e1.live y hy),?_,fun h0=>by rw[hsla];exact hK (e1.pk h0),fun _=> ?_⟩
  ·have:adr u j (S.cls j)=adr t j (S.cls j):=by funext k;exact zie ea es j _ k
   rw[this];exact e1.perm h0
  ·refine e1.free.out o0 (fun y hy=> ?_)
   obtain⟨q1,q2,q3,q4,q5,q6,q7⟩:=e1.at_ hok hi (x:=y) (.inl hy);have hne:y≠x:=fun e=>(List.nodup_append.1 (e1.nodup h0)).2.2 y hy x hx e;exact⟨q4,by omega,(e1.apart (.inl hy) (.inr hx) hne)⟩
  ·rw[hsla]
   exact(e1.pb h0).out o0 (by omega) (by omega)
 ·refine(hs.each j hj').other hok hj' ea es (fun _ _=>by rw[eh]) o0 ?_
  have:=zby t e;omega
theorem SlI.root(hs:SlI t S)(hok:t.Ok)(f v:Nat)(hv:v<256^fldW f)(hf:f<3∨12<f):SlI (t.setRt f v) S:=by
 refine⟨hs.ls.same' rfl (fun c hc=> ?_) (fun _ _ _=>rfl),fun j hj=> ?_⟩
 ·rw[TM.setRt_rt,if_neg (by omega)]
 ·exact(hs.each j hj).other hok hj rfl rfl (fun _ _=>rfl) (zcu hok f v hv (sla t j+1024) 0) (.inl (Nat.le_refl _))
theorem SlI.rnxt(hs:SlI t S)(hok:t.Ok)(h:Lv t.a S x n)(v:Nat):SlI (t.nxt x v) S:=by
 obtain⟨b1,b2,b3,b4,b5,b6,b7⟩:=zi2 hs hok h;exact hs.inner hok h rfl rfl (fun _ _=>rfl) rfl rfl ((zay hok (x+8) 4 v (by omega)).wide (by omega) (by omega))
theorem SlI.rprv(hs:SlI t S)(hok:t.Ok)(h:Lv t.a S x n)(v:Nat):SlI (t.prv x v) S:=by
 obtain⟨b1,b2,b3,b4,b5,b6,b7⟩:=zi2 hs hok h;exact hs.inner hok h rfl rfl (fun _ _=>rfl) rfl rfl ((zay hok (x+12) 4 v (by omega)).wide (by omega) (by omega))
end
section
end
section
end
section
end
section
end
end Go.Proofs.YtolhkhdbgnciiaaGreatDoor
