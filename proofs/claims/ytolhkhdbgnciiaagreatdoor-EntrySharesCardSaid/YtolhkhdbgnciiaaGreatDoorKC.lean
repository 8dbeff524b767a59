/- Several texts in one. -/
import Derived.Test.YtolhkhdbgnciiaaGreatDoorGG
namespace Go.Proofs.YtolhkhdbgnciiaaGreatDoor
open _root_.Go.Proofs.Tryz
open Go.Lib (hid)
open Go.IntWalk (i64_in)
set_option linter.unusedVariables false
set_option linter.unusedSimpArgs false
open Go.RowKit
set_option maxRecDepth 100000
set_option maxHeartbeats 8000000
section
variable {t : TM}
def TM.fl(t:TM)(f:Int):TM:={t with ft:=f}
end
def zHB:HB:={tag:=0,cls:=0,used:=false,label:=0,name:=0,next:=0,prev:=0,refs:=0,expiry:=0,typ:=0,size:=0,hash:=0}
section
variable {w : World} {q : MH} {t : TM}
theorem znx(h:IsH w q t)(x:Int)(hk:zbd t.kinds x 4≠5):Calls prog 216 #[.pointer (some ⟨q.m,0,none⟩),.int .i64 x] w fun e w'=>e= .returned (.tuple #[.int .i64 0,.int .i64 (zbd t.kinds x 4)])∧w'=w:=by
 have hkd:Calls prog 61 #[.pointer (some ⟨q.m,0,none⟩),.int .i64 x,.int .i64 4] w fun e w'=>e= .returned (.int .i64 (zbd t.kinds x 4))∧w'=w:=zqj w q t.ms h.m.m x 4;generalize zbd t.kinds x 4=K at*;clear h;have hb:((K:Int) !=5)=true:=by simp;omega
 go_enter func216,ntmps216;go_wp2_with fail;with_reducible refine hkd.mono ?_
 rintro e w' ⟨rfl,rfl⟩;go_wp2_with fail;go_ret2;exact⟨rfl,rfl⟩
theorem zko(h:IsH w q t)(x:Int)(hk5:zbd t.kinds x 4≠5)(hk6:zbd t.kinds x 4≠6):Calls prog 117 #[.pointer (some ⟨q.m,0,none⟩),.int .i64 x] w fun e w'=>e= .returned (.tuple #[zHB.val,.int .i64 30])∧IsH w' q t∧Fr q.blocks w w':=by
 have HLY:=hid (fun W (hW:IsH W q t)=>znx hW x hk5);have HI:=hid h;have hlt:=h.m.lt;have HBQ:=hid (show∀k,w.heap.size≤k→k∉q.blocks from fun k hk hm=>by have:=hlt _ hm;omega);have HS0:=hid h.m.tab.size;have HS1:=hid h.tabs.size;have hzz:zd9= #[.int .i64 0,.int .i64 0,.bool false,.int .i64 0,.int .u32 0,.int .u32 0,.int .u32 0,.int .u32 0,.int .u64 0,.int .u16 0,.int .i64 0,.int .u32 0] :=rfl;have HZZ:=hid hzz;have hP:=hid (show∀w',IsH w' q t→Fr q.blocks w w'→(Ending.returned (.tuple #[.agg zHB.cells,.int .i64 30])= .returned (.tuple #[zHB.val,.int .i64 30])∧IsH w' q t∧Fr q.blocks w w')from fun w' a b=>⟨rfl,a,b⟩);have HFR:=hid (show∀W W' (hW:IsH W q t) (hf:Fr [w.heap.size] W W'),IsH W' q t from fun W W' h1 hf=>⟨h1.m.fr hf (fun k hk hm=>by simp at hm;subst hm;exact HBQ.out _ (Nat.le_refl _) hk) (fun k hk hm=>by simp at hm;subst hm;have:=HS0.out;omega),h1.tabs.fr hf (by have:=HS1.out;simpa using this),h1.hi⟩);generalize zbd t.kinds x 4=K at*;have k5:((K:Int) !=5)=true:=by simp;omega
 have k6:((K:Int) !=6)=true:=by simp;omega
 clear hlt hzz h;go_enter func117,ntmps117;go_wp2_with fail;with_reducible refine(HLY.out _ (HI.out.alloc _)).mono ?_
 rintro e w1 ⟨rfl,rfl⟩;have hI1:=hid (HI.out.alloc (.cells zd9 89));have hF1:=hid (((Fr.refl q.blocks w).alloc (.cells zd9 89)));have hB1:=(Blk.new w 89 zd9);rw[HZZ.out]at hB1 hF1 hI1;have hB2:=hid hB1;(have d0:=hB1.cell 0;have z0:=hB1.frozen 0;have d1:=hB1.cell 1;have z1:=hB1.frozen 1;have d2:=hB1.cell 2;have z2:=hB1.frozen 2;have d3:=hB1.cell 3;have z3:=hB1.frozen 3;have d4:=hB1.cell 4;have z4:=hB1.frozen 4;have d5:=hB1.cell 5;have z5:=hB1.frozen 5;have d6:=hB1.cell 6;have z6:=hB1.frozen 6;have d7:=hB1.cell 7;have z7:=hB1.frozen 7;have d8:=hB1.cell 8;have z8:=hB1.frozen 8;have d9:=hB1.cell 9;have z9:=hB1.frozen 9;have d10:=hB1.cell 10;have z10:=hB1.frozen 10;have d11:=hB1.cell 11;have z11:=hB1.frozen 11;simp[HB.cells]at d0 d1 d2 d3 d4 d5 d6 d7 d8 d9 d10 d11);clear hB1;go_wp2_with fail;have hB3:=hB2.out;clear d0 z0 d1 z1 d2 z2 d3 z3 d4 z4 d5 z5 d6 z6 d7 z7 d8 z8 d9 z9 d10 z10 d11 z11;generalize w.alloc (.cells #[.int .i64 0,.int .i64 0,.bool false,.int .i64 0,.int .u32 0,.int .u32 0,.int .u32 0,.int .u32 0,.int .u64 0,.int .u16 0,.int .i64 0,.int .u32 0] 89)=w9 at*;(have q0:=hB3.cell 0;have q1:=hB3.cell 1;have q2:=hB3.cell 2;have q3:=hB3.cell 3;have q4:=hB3.cell 4;have q5:=hB3.cell 5;have q6:=hB3.cell 6;have q7:=hB3.cell 7;have q8:=hB3.cell 8;have q9:=hB3.cell 9;have q10:=hB3.cell 10;have q11:=hB3.cell 11;simp at q0 q1 q2 q3 q4 q5 q6 q7 q8 q9 q10 q11);refine bodyPost_ret (by simp[results,results117,go_sem,q0,q1,q2,q3,q4,q5,q6,q7,q8,q9,q10,q11];try rfl) rfl (hP.out _ hI1.out hF1.out)
end
end Go.Proofs.YtolhkhdbgnciiaaGreatDoor
