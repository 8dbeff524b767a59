/- Several texts in one. -/
import Derived.Test.YtellbfamofilaaaGreatDoorMC
import Derived.Test.YtellbfamofilaaaGreatDoorME
import Derived.Test.YtellbfamofilaaaGreatDoorKT
import Derived.Laws.IdiomStrings
import Derived.Recover
import Derived.Defers
import Derived.Laws.Pointers
import Derived.Test.YtellbfamofilaaaGreatDoorMG
import Derived.Test.YtellbfamofilaaaGreatDoorMI
import Derived.ScopeJumps
import Derived.WalkMore
import Derived.Test.YtellbfamofilaaaGreatDoorMJ
import Derived.Test.YtellbfamofilaaaGreatDoorKF
import Derived.Test.YtellbfamofilaaaGreatDoorGD
/- A world of blocks: into the index, out of it; its slots, as they were. -/
namespace Go.Proofs.YtellbfamofilaaaGreatDoor
set_option linter.unusedVariables false
set_option linter.unusedSimpArgs false
open Go.RowKit

/-- The slots without a block. -/
def delT (H T : Nat → Nat) (x : Nat) : Nat → Nat := match fndT T H 224 (H x) (fun z => z == x) with
  | some i => dlS H 224 223 i T
  | none => T
def InsT (H T : Nat → Nat) (x : Nat) (T' : Nat → Nat) : Prop := (∀ y, y ≠ 0 → (InT 224 T' y ↔ y = x ∨ InT 224 T y)) ∧ delT H T' x = T
def DelT (H T : Nat → Nat) (x : Nat) (T' : Nat → Nat) : Prop := (∀ y, y ≠ 0 → (InT 224 T' y ↔ InT 224 T y ∧ y ≠ x)) ∧ T' = delT H T x
/-- A node's parents; the slots without it, and without them. -/
def parK (par : Nat → Nat) (x : Nat) : Nat → Nat
  | 0 => x
  | k + 1 => par (parK par x k)
def slK (H par T : Nat → Nat) (x : Nat) : Nat → (Nat → Nat)
  | 0 => T
  | k + 1 => delT H (slK H par T x k) (parK par x k)
section
variable {w0 W W' : World} {q : MH} {S S' : SS} {x y n c : Nat} {u v : TM} {L L' : Nat → Prop} {E E' : Nat → HB} {B : Nat → List Nat} {X : HB} {b : List Nat}
theorem wb_insS (g : WB w0 q S L u E B W) (hx : L x) (hn : ¬ InT 224 u.sl x) : Calls Tryz.prog 110 #[.pointer (some ⟨q.m, 0, none⟩), .int .i64 x] W fun e w' => e = .returned (.int .i64 0) ∧ Fr q.blocks W w' ∧ ∃ T, WB w0 q S L (u.wsl T) E B w' ∧ InsT (hmE u E) u.sl x T := by
  have h0 := g.ne0 hx
  obtain ⟨f1, f2⟩ := g.rh.found h0.1
  have hm0 : hmE u E x < 224 := g.rh.r.hm x
  have hs := g.s
  cases hp : fndT u.sl (hmE u E) 224 (hmE u E x) (fun z => z == x) with
  | some i => exact absurd ⟨i, f1 i hp⟩ hn
  | none =>
    have hno := f2 hp
    have hp' : fndT u.sl (hmE u E) u.s ((E x).hash % u.s) (fun z => z == x) = none := by rw [hs]; exact hs ▸ hp
    cases hg : gapT u.sl 224 (hmE u E x) with
    | none =>
      obtain ⟨s, hsl, hz⟩ := g.room (g.lv hx) hn
      obtain ⟨j, hj, rfl⟩ := mod_ex (n := 224) (hmE u E x) hsl
      exact absurd hz (gapS_none 224 _ u.sl 224 0 hg j (Nat.zero_le _) (by omega))
    | some g0 =>
      have hg' : gapT u.sl u.s ((E x).hash % u.s) = some g0 := by rw [hs]; exact hs ▸ hg
      obtain ⟨k, gg, ip, hk, hgg⟩ := insP_ex (T := u.sl) (H := hmE u E) (n := 224) (by decide) hm0 hg
      have Q : InsQ 224 u.sl (hmE u E) (hmE u E x) k gg x := ⟨g.rh.r, ip, hk, hgg, rfl, h0.1, hno⟩
      have ip' : InsP u.sl (hmE u E) u.s ((E x).hash % u.s) k gg := by rw [hs]; exact hs ▸ ip
      refine (iinsert g.h g.ix (g.ix.e x hx) rfl hp' hg' ip').mono fun e w' ⟨he, k1, k2⟩ => ⟨he, k2, insX u.sl 224 (hmE u E x + k) gg x, ?_, ⟨fun y hy => Q.inT hy, by unfold delT; rw [Q.found]; exact Q.back⟩⟩
      have e1 : up (shS u.s ((E x).hash % u.s + k) gg u.sl) (((E x).hash % u.s + k) % u.s) x = insX u.sl 224 (hmE u E x + k) gg x := by
        unfold insX hmE
        rw [hs]
      rw [e1] at k1
      exact g.slots k1 k2 (insX_closed Q (fun i hi => g.ix.sl i (by rw [hs]; exact hi)) hx) (Q.rz g.rh)
/-- A block is deleted. -/
theorem wb_delS (g : WB w0 q S L u E B W) (hx : L x) (hin : InT 224 u.sl x) : Calls Tryz.prog 99 #[.pointer (some ⟨q.m, 0, none⟩), .int .i64 x] W fun e w' => e = .returned (.int .i64 0) ∧ Fr q.blocks W w' ∧ ∃ T, WB w0 q S L (u.wsl T) E B w' ∧ DelT (hmE u E) u.sl x T := by
  have h0 := g.ne0 hx
  obtain ⟨f1, f2⟩ := g.rh.found h0.1
  have hs := g.s
  cases hp : fndT u.sl (hmE u E) 224 (hmE u E x) (fun z => z == x) with
  | some i =>
    obtain ⟨hi, e1⟩ := f1 i hp
    have := idel (i0 := i) g.h g.ix (g.ix.e x hx) (by rw [hs]; exact hi) (by rw [hs]; exact hs ▸ hp)
    obtain ⟨m, P⟩ := dlS_spec 224 (hmE u E) 223 i u.sl (by decide)
    have him : i % 224 = i := Nat.mod_eq_of_lt hi
    refine this.mono fun e w' ⟨he, k1, k2⟩ => ⟨he, k2, dlS (hmE u E) 224 223 i u.sl, ?_, ⟨fun y hy => by rw [DlP.inT (n := 224) P g.rh hy, him, e1], by unfold delT; rw [hp]⟩⟩
    have e2 : dlS (hmE u E) u.s (u.s - 1) i u.sl = dlS (hmE u E) 224 223 i u.sl := by rw [hs]
    rw [e2] at k1
    refine g.slots k1 k2 (fun j hj => ?_) (DlP.rz (n := 224) P g.rh (by rw [him, e1]; exact h0.1))
    by_cases z : dlS (hmE u E) 224 223 i u.sl j = 0
    · exact .inl z
    · obtain ⟨⟨s, hsl, e3⟩, _⟩ := (DlP.inT (n := 224) P g.rh z).1 ⟨j, hj, rfl⟩
      rw [← e3]
      exact .inr ((g.ix.sl s (by rw [hs]; exact hsl)).resolve_left (by rw [e3]; exact z))
  | none =>
    obtain ⟨s, hs2, e⟩ := hin
    exact absurd e (f2 hp s hs2)
end
end Go.Proofs.YtellbfamofilaaaGreatDoor

/- node.Make: the index's slots, too. -/
namespace Go.Proofs.YtellbfamofilaaaGreatDoor
set_option linter.unusedVariables false
set_option linter.unusedSimpArgs false
open Go.RowKit

section
variable {w0 W W' : World} {q : MH} {S S' : SS} {x y n c p : Nat} {u v : TM} {L L' : Nat → Prop} {l : List Nat} {E E' : Nat → HB} {B : Nat → List Nat} {X : HB} {b : List Nat}
set_option maxRecDepth 100000 in
set_option maxHeartbeats 4000000 in
theorem nmake_yesS (g : NI w0 q S L l u E B W) (hf : Fx u S L x (clsN (16 + b.length))) (hp : p = 0 ∨ p ∈ l) (hb : ∀ k ∈ b, k < 256) (hk : labOk b = true) (hno : fndN l E B p (b.map lowB) = none) (hrf : p ≠ 0 → (E p).refs + 1 < 4294967296) :
    Calls Tryz.prog 57 #[.pointer (some ⟨q.m, 0, none⟩), .int .i64 x, .int .i64 p, .string (strOf b)] W fun e w' => e = .returned (.int .i64 0) ∧ Fr q.blocks W w' ∧ ∃ v E' B', NI w0 q S (fun y => y = x ∨ L y) (l ++ [x]) v E' B' w' ∧ NewE E E' B B' x p (b.map lowB) ∧ RtQ u v ∧ delT (hmE v E') v.sl x = u.sl := by
  have hlen := labOk_len hk
  have hc := clsN_ok (16 + b.length) (by omega)
  have hll := lowB_len b
  have hlow := low_lt hb
  have hxb := g.wb.at_ hf.lv
  have hbase := g.wb.base
  have hx0 : x ≠ 0 := by omega
  have hxs : x < 4294967296 := by have h1 := hxb.2.2.2.2.2.1; have h2 := g.wb.cz; have h3 : lsize 7 224 ≤ 1048576 := by decide
                                  omega
  have hpl : p < 1048576 := by
    rcases hp with e | e
    · omega
    · exact (g.lt e).2
  have hh := g.hlt p hp
  have hmx := mixL_lt (hsh E p) (b.map lowB)
  obtain ⟨X, hX⟩ : ∃ X, newX (clsN (16 + b.length)) b.length p (mixL (hsh E p) (b.map lowB)) = X := ⟨_, rfl⟩
  have hXo : X.Ok := hX ▸ newX_ok hc.2.1 (by omega) (by omega) hmx
  have hXr : X.right = true := hX ▸ newX_right ⟨hc.1, hc.2.1⟩ hlen
  have hXt : X.tag = 2 := by rw [← hX]; rfl
  have few := g.few
  have H0 := Lib.hid (g.fr0 ((Fr.refl [] W).alloc (.cells #[.int .i64 0] 32)))
  have F0 := Lib.hid ((Fr.refl q.blocks W).alloc (.cells #[.int .i64 0] 32))
  have A0 := Lib.hid (Blk.new W 32 #[.int .i64 0])
  have hlt := g.wb.lt
  have HNA := Lib.hid (show W.heap.size ∉ q.blocks from fun hm => by have := hlt _ hm; omega)
  have HM := Lib.hid (nmade H0.out.wb.h.m)
  have HCl := Lib.hid (fun V (hV : NI w0 q S L l u E B V) => (show Calls Tryz.prog 55 #[.string (strOf b)] V fun e w' => e = .returned (.tuple #[.int .i64 (clsN (16 + b.length)), .int .i64 0]) ∧ Fr [] V w' from by
    have := nclass hV.wb.h.m.tab b hb
    rw [if_pos hk] at this
    exact this))
  have HPa := Lib.hid (fun V (hV : NI w0 q S L l u E B V) => (show Calls Tryz.prog 62 #[.pointer (some ⟨q.m, 0, none⟩), .int .i64 p] V fun e w' => e = .returned (.bool true) ∧ IsH w' q u ∧ Fr q.blocks V w' from by
    rcases Nat.eq_zero_or_pos p with e | h1
    · rw [e]; exact nparent0 hV.wb.h
    · have hm := hp.resolve_left (by omega)
      have := nparent hV.wb.h (hV.wb.ix.e p ((hV.mem p).1 hm).1) (by omega)
      rw [((hV.mem p).1 hm).2] at this
      exact this))
  have HBl := Lib.hid (fun V (hV : NI w0 q S L l u E B V) => nblank hV.wb hf)
  have HFi := Lib.hid (fun V (hV : NI w0 q S L l u E B V) => (show Calls Tryz.prog 21 #[.pointer (some ⟨q.m, 0, none⟩), .int .i64 p, .string (strOf b)] V fun e w' => e = .returned (.tuple #[.int .i64 0, .bool false]) ∧ IsH w' q u ∧ Fr q.blocks V w' from by
    have := nfind hV p hp b hb
    rw [if_pos hk, hno] at this
    exact this))
  have HLo := Lib.hid (fun V => flower V b hb (by omega))
  have HHs := Lib.hid (fun V (hV : NI w0 q S L l u E B V) => (show Calls Tryz.prog 67 #[.pointer (some ⟨q.m, 0, none⟩), .int .i64 p] V fun e w' => e = .returned (.int .u32 (hsh E p)) ∧ IsH w' q u ∧ Fr q.blocks V w' from by
    unfold hsh
    rcases Nat.eq_zero_or_pos p with e | h1
    · rw [if_pos e, e]
      exact (nhash0 V _).mono fun e w' ⟨h1, h2⟩ => ⟨h1, by rw [h2]; exact hV.wb.h, by rw [h2]; exact Fr.refl _ _⟩
    · have hm := hp.resolve_left (by omega)
      rw [if_neg (by omega)]
      exact nhash hV.wb.h (hV.wb.ix.e p ((hV.mem p).1 hm).1) (by omega) ((hV.mem p).1 hm).2))
  have HMx := Lib.hid (fun V => (show Calls Tryz.prog 66 #[.int .u32 (hsh E p), .string (strOf (b.map lowB))] V fun e w' => e = .returned (.int .u32 (mixL (hsh E p) (b.map lowB))) ∧ Fr [] V w' from by
    have := xlab V (hsh E p) (b.map lowB) hlow (by omega)
    rw [low_low] at this
    exact this))
  have hsz0 : (strOf (b.map lowB)).size = b.length := by rw [strOf_sz, hll]
  have HPu := Lib.hid (fun V (hV : NI w0 q S L l u E B V) => (show Calls Tryz.prog 108 #[.pointer (some ⟨q.m, 0, none⟩), .int .i64 x, .agg #[.int .i64 2, .int .i64 (clsN (16 + b.length)), .bool false, .int .i64 (strOf (b.map lowB)).size, .int .u32 p, .int .u32 0, .int .u32 0, .int .u32 0, .int .u64 0, .int .u16 0, .int .i64 0, .int .u32 (mixL (hsh E p) (b.map lowB))]] V fun e w' => e = .returned (.int .i64 0) ∧ Fr q.blocks V w' ∧ ∃ v, (WB w0 q S L v E B w' ∧ BlkE v x X) ∧ v.sl = u.sl ∧ v.rt = u.rt from by
    rw [hsz0]
    have := wb_put hV.wb hf.lv hf.no hXo hXr (.inr hXt)
    rw [← hX] at this
    refine this.mono fun e w' ⟨h1, h2, v, h3, h4, h5, h6⟩ => ⟨h1, h2, v, ⟨h3, hX ▸ h4⟩, h5, h6⟩))
  have hfit : 16 + (b.map lowB).length ≤ csz (clsN (16 + b.length)) := by rw [hll]; exact hc.2.2
  have HWr := Lib.hid (fun V v (hV : WB w0 q S L v E B V ∧ BlkE v x X) (g1 : Nat) (cap : Nat) (hB : Byt V (some ⟨g1, 0, none⟩) (b.map lowB)) (hg1 : g1 ≠ q.pw) => (show Calls Tryz.prog 109 #[.pointer (some ⟨q.m, 0, none⟩), .int .i64 ((x : Int) + 16), .slice (some ⟨g1, 0, none⟩) (strOf (b.map lowB)).size cap, .int .i64 5] V fun e w' => e = .returned (.bool true) ∧ Fr q.blocks V w' ∧ ∃ v', WB w0 q S (fun y => y = x ∨ L y) v' (up E x X) (up B x (b.map lowB)) w' ∧ v'.sl = v.sl ∧ v'.rt = v.rt from by
    rw [hsz0]
    have := wb_write (c := cap) hV.1 hf.lv hf.no hV.2 hXt hB (fun g o e => by cases e; exact hg1) hfit
    rw [hll] at this
    refine this.mono fun e w' ⟨h1, h2, v', h3, h4, h5, h6, h7⟩ => ⟨h1, h2, v', h3.add hf.no h4 ?_, h5, h6⟩
    have hsz : sz X.tag.toNat = 16 := by rw [hXt]; rfl
    refine ⟨⟨clsN (16 + b.length), ?_, hc.1, hc.2.1, hf.lv, ?_⟩, hlow, ?_, fun _ => ⟨?_, by rw [hll]; exact hlen.1, by rw [hll]; exact hlen.2⟩, fun h => ?_⟩
    · rw [← hX]; rfl
    · rw [hsz]; exact hfit
    · rw [hsz, hll]; exact h7
    · rw [← hX, hll]; rfl
    · rw [hXt] at h; cases h))
  have HHe := Lib.hid (fun (hp0 : p ≠ 0) V v (hV : WB w0 q S (fun y => y = x ∨ L y) v (up E x X) (up B x (b.map lowB)) V) => (show Calls Tryz.prog 53 #[.pointer (some ⟨q.m, 0, none⟩), .int .i64 p, .int .i64 1] V fun e w' => e = .returned (.int .i64 (((E p).refs + 1 : Nat) : Int)) ∧ Fr q.blocks V w' ∧ ∃ v', WB w0 q S (fun y => y = x ∨ L y) v' (up (up E x X) p { E p with refs := (E p).refs + 1 }) (up B x (b.map lowB)) w' ∧ v'.sl = v.sl ∧ v'.rt = v.rt from by
    have hm := (g.mem p).1 (hp.resolve_left hp0)
    have hne : p ≠ x := fun e => hf.no (e ▸ hm.1)
    have he : up E x X p = E p := up_ne _ _ hne
    have := wb_held hV (x := p) (.inr hm.1) (by rw [he]; exact hm.2) 1 ((E p).refs + 1) (by rw [he]; omega) (by omega) (hrf hp0)
    rw [he] at this
    exact this))
  have hNx : ¬ InT 224 u.sl x := fun h => hf.no ((g.inx x hx0).1 h)
  have HIn := Lib.hid (fun V v E3 (hV : WB w0 q S (fun y => y = x ∨ L y) v E3 (up B x (b.map lowB)) V) (hs : v.sl = u.sl) => wb_insS hV (.inl rfl) (by rw [hs]; exact hNx))
  have HCo := Lib.hid (fun V v E3 (hV : WB w0 q S (fun y => y = x ∨ L y) v E3 (up B x (b.map lowB)) V) (hr : v.rt 17 = l.length) => wb_cnt hV 1 (l.length + 1) (by rw [hr]; omega) (by omega) (by omega))
  have hcnt := g.cnt
  have HC17 := Lib.hid hcnt
  have HEnd1 := Lib.hid (fun (hp0 : p = 0) V T (v : TM) (hV : WB w0 q S (fun y => y = x ∨ L y) ((v.wsl T).setRt 17 (l.length + 1)) (up E x X) (up B x (b.map lowB)) V) (hs : v.sl = u.sl) (hrt : v.rt = u.rt) (hT : InsT (hmE v (up E x X)) v.sl x T) =>
    (show ∃ v E' B', NI w0 q S (fun y => y = x ∨ L y) (l ++ [x]) v E' B' V ∧ NewE E E' B B' x p (b.map lowB) ∧ RtQ u v ∧ delT (hmE v E') v.sl x = u.sl from by
      have hN : NewE E (up E x X) B (up B x (b.map lowB)) x p (b.map lowB) := by
        refine ⟨by rw [up_same]; exact hXt, by rw [up_same, ← hX]; rfl, by rw [up_same, ← hX]; rfl, by rw [up_same, ← hX]; rfl, up_same _ _ _, fun y hy => by rw [up_ne _ _ hy]; exact ⟨rfl, rfl, rfl⟩, fun y hy hy0 => ?_, fun y hy => up_ne _ _ hy⟩
        rw [up_ne _ _ hy, if_neg (by omega), Nat.add_zero]
      exact ⟨_, _, _, g.new hV hf.no hx0 hN (show up v.rt 17 (l.length + 1) 17 = l.length + 1 from up_same _ _ _) (fun y hy => by rw [← hs]; exact hT.1 y hy) hp (by rw [labOk_low]; exact hk) (low_low b) hno, hN, fun f h1 h2 => by show up v.rt 17 (l.length + 1) f = u.rt f; rw [up_ne _ _ h1, hrt], hT.2.trans hs⟩))
  have HEnd2 := Lib.hid (fun (hp0 : p ≠ 0) V T (v : TM) (hV : WB w0 q S (fun y => y = x ∨ L y) ((v.wsl T).setRt 17 (l.length + 1)) (up (up E x X) p { E p with refs := (E p).refs + 1 }) (up B x (b.map lowB)) V) (hs : v.sl = u.sl) (hrt : v.rt = u.rt) (hT : InsT (hmE v (up (up E x X) p { E p with refs := (E p).refs + 1 })) v.sl x T) =>
    (show ∃ v E' B', NI w0 q S (fun y => y = x ∨ L y) (l ++ [x]) v E' B' V ∧ NewE E E' B B' x p (b.map lowB) ∧ RtQ u v ∧ delT (hmE v E') v.sl x = u.sl from by
      have hm := (g.mem p).1 (hp.resolve_left hp0)
      have hne : p ≠ x := fun e => hf.no (e ▸ hm.1)
      have hN : NewE E (up (up E x X) p { E p with refs := (E p).refs + 1 }) B (up B x (b.map lowB)) x p (b.map lowB) := by
        have hxx : up (up E x X) p { E p with refs := (E p).refs + 1 } x = X := by rw [up_ne _ _ hne.symm, up_same]
        refine ⟨by rw [hxx]; exact hXt, by rw [hxx, ← hX]; rfl, by rw [hxx, ← hX]; rfl, by rw [hxx, ← hX]; rfl, up_same _ _ _, fun y hy => ?_, fun y hy hy0 => ?_, fun y hy => up_ne _ _ hy⟩
        · by_cases e : y = p
          · rw [e, up_same]; exact ⟨rfl, rfl, rfl⟩
          · rw [up_ne _ _ e, up_ne _ _ hy]; exact ⟨rfl, rfl, rfl⟩
        · by_cases e : y = p
          · rw [if_pos e, e, up_same]
          · rw [if_neg e, up_ne _ _ e, up_ne _ _ hy]; rfl
      exact ⟨_, _, _, g.new hV hf.no hx0 hN (show up v.rt 17 (l.length + 1) 17 = l.length + 1 from up_same _ _ _) (fun y hy => by rw [← hs]; exact hT.1 y hy) hp (by rw [labOk_low]; exact hk) (low_low b) hno, hN, fun f h1 h2 => by show up v.rt 17 (l.length + 1) f = u.rt f; rw [up_ne _ _ h1, hrt], hT.2.trans hs⟩))
  have wu : IntKind.u32.wrap (p : Int) = (p : Int) := by show (p : Int) % 4294967296 = p; omega
  have wx : IntKind.i64.wrap ((x : Int) + 16) = (x : Int) + 16 := IntWalk.i64_in _ (by omega)
  have hcv := fun W => run_bytes_of_string (P := Tryz.prog) W 9 114 5 (strOf (b.map lowB)) Tryz.underlying9 Tryz.underlying114 Tryz.underlying5
  have HBy := Lib.hid (fun (w : World) (cap : Nat) (z : Nat × Nat) => byt_new w 5 (b.map lowB) hlow (by omega) cap z)
  have HPW := Lib.hid (show q.pw ∈ q.blocks from by simp [MH.blocks])
  generalize hS2 : strOf (b.map lowB) = s2 at *
  have hp0c := Classical.em (p = 0)
  have g0 := Lib.hid g
  have hp1 : ((p : Int) != 0) = !decide (p = 0) := by
    by_cases e : p = 0
    · subst e; rfl
    · simp [e]
  generalize mixL (hsh E p) (b.map lowB) = hx at *
  generalize hsh E p = h0 at *
  generalize strOf b = s at *
  generalize clsN (16 + b.length) = cl at *
  clear hX hXo hXr hXt few hlt hll hlow hxb hbase hx0 hxs hpl hh hmx hfit hNx hcnt hno hrf hb hk g hf hc hlen hS2 hsz0
  go_enter_defers Tryz.func57, Tryz.ntmps57
  go_wp2_with fail
  with_reducible refine HM.out.mono ?_
  rintro e w1 ⟨rfl, f1⟩
  have K1 := Lib.hid (H0.out.fr0 f1)
  have F1 := Lib.hid (F0.out.trans f1.nil)
  have A1 := Lib.hid (A0.out.fr f1 (by simp))
  clear f1 HM H0 F0 A0
  go_wp2_with fail
  with_reducible refine (nsure_ok _ _).mono ?_
  rintro e w1' ⟨rfl, rfl⟩
  go_wp2_with fail
  with_reducible refine (HCl.out _ K1.out).mono ?_
  rintro e w2 ⟨rfl, f2⟩
  have K2 := Lib.hid (K1.out.fr0 f2)
  have F2 := Lib.hid (F1.out.trans f2.nil)
  have A2 := Lib.hid (A1.out.fr f2 (by simp))
  clear f2 K1 F1 A1
  go_wp2_with fail
  with_reducible refine (nsure_ok _ _).mono ?_
  rintro e w2' ⟨rfl, rfl⟩
  go_wp2_with fail
  with_reducible refine (HPa.out _ K2.out).mono ?_
  rintro e w3 ⟨rfl, k3, f3⟩
  have K3 := Lib.hid (K2.out.same k3 f3)
  have F3 := Lib.hid (F2.out.trans f3)
  have A3 := Lib.hid (A2.out.fr f3 HNA.out)
  clear k3 f3 K2 F2 A2
  go_wp2_with fail
  with_reducible refine (HBl.out _ K3.out).mono ?_
  rintro e w4 ⟨rfl, k4, f4⟩
  have K4 := Lib.hid (K3.out.same k4 f4)
  have F4 := Lib.hid (F3.out.trans f4)
  have A4 := Lib.hid (A3.out.fr f4 HNA.out)
  clear k4 f4 K3 F3 A3
  go_wp2_with fail
  with_reducible refine (nsure_ok _ _).mono ?_
  rintro e w4' ⟨rfl, rfl⟩
  go_wp2_with fail
  with_reducible refine (HFi.out _ K4.out).mono ?_
  rintro e w5 ⟨rfl, k5, f5⟩
  have K5 := Lib.hid (K4.out.same k5 f5)
  have F5 := Lib.hid (F4.out.trans f5)
  have A5 := Lib.hid (A4.out.fr f5 HNA.out)
  clear k5 f5 K4 F4 A4
  go_wp2_with fail
  with_reducible refine (nsure_ok _ _).mono ?_
  rintro e w5' ⟨rfl, rfl⟩
  go_wp2_with fail
  with_reducible refine (HLo.out _).mono ?_
  rintro e w6 ⟨rfl, f6⟩
  have K6 := Lib.hid (K5.out.fr0 f6)
  have F6 := Lib.hid (F5.out.trans f6.nil)
  have A6 := Lib.hid (A5.out.fr f6 (by simp))
  clear f6 K5 F5 A5
  go_wp2_with fail
  with_reducible refine (HHs.out _ K6.out).mono ?_
  rintro e w7 ⟨rfl, k7, f7⟩
  have K7 := Lib.hid (K6.out.same k7 f7)
  have F7 := Lib.hid (F6.out.trans f7)
  have A7 := Lib.hid (A6.out.fr f7 HNA.out)
  clear k7 f7 K6 F6 A6
  go_wp2_with fail
  with_reducible refine (HMx.out _).mono ?_
  rintro e w8 ⟨rfl, f8⟩
  have K8 := Lib.hid (K7.out.fr0 f8)
  have F8 := Lib.hid (F7.out.trans f8.nil)
  have A8 := Lib.hid (A7.out.fr f8 (by simp))
  clear f8 K7 F7 A7
  go_wp2_with fail
  with_reducible refine (HPu.out _ K8.out).mono ?_
  rintro e w9 ⟨rfl, f9, v9, k9, s9, r9⟩
  have K9 := Lib.hid k9
  have F9 := Lib.hid (F8.out.trans f9)
  have A9 := Lib.hid (A8.out.fr f9 HNA.out)
  clear k9 f9 K8 F8 A8
  go_wp2_with fail
  have FA := (Fr.refl q.blocks w9).alloc (.cells (bytesRow s2 (grownCap w9 s2.size 0 5)) 5 ((bytesRow s2 (grownCap w9 s2.size 0 5)).size, (bytesRow s2 (grownCap w9 s2.size 0 5)).size + 1))
  have FB := (Fr.refl [] w9).alloc (.cells (bytesRow s2 (grownCap w9 s2.size 0 5)) 5 ((bytesRow s2 (grownCap w9 s2.size 0 5)).size, (bytesRow s2 (grownCap w9 s2.size 0 5)).size + 1))
  have hlt9 := K9.out.1.lt _ HPW.out
  with_reducible refine (HWr.out _ v9 ⟨K9.out.1.fr0 FB.drew, K9.out.2⟩ w9.heap.size _ ((HBy.out w9 _ _).fr (Fr.refl [] _).drew (by simp)) (by omega)).mono ?_
  rintro e w10 ⟨rfl, f10, v10, k10, s10, r10⟩
  have K10 := Lib.hid k10
  have F10 := Lib.hid ((F9.out.trans FA.drew).trans f10)
  have A10 := Lib.hid ((A9.out.fr FA.drew HNA.out).fr f10 HNA.out)
  have s11 : v10.sl = u.sl := s10.trans s9
  have r11 : v10.rt 17 = l.length := by rw [r10, r9]; exact HC17.out
  have RR := Lib.hid (r10.trans r9)
  clear k10 f10 F9 A9 FA FB hlt9 K9 s10 r10 s9 r9 HPW HBy HWr HPu
  rcases hp0c with h0' | h0'
  · have hq1 : ((p : Int) != 0) = false := by rw [hp1, decide_eq_true h0']; rfl
    have K11 := K10
    have F11 := F10
    have A11 := A10
    clear hp1 K10 F10 A10 HEnd2 HHe
    go_wp2_with fail
    with_reducible refine (HIn.out _ _ _ K11.out s11).mono ?_
    rintro e w20 ⟨rfl, f20, T, k20, hT⟩
    have K20 := Lib.hid k20
    have F20 := Lib.hid (F11.out.trans f20)
    have A20 := Lib.hid (A11.out.fr f20 HNA.out)
    clear k20 f20 F11 A11
    go_wp2_with fail
    have rT : (v10.wsl T).rt 17 = l.length := r11
    with_reducible refine (HCo.out _ _ _ K20.out rT).mono ?_
    rintro e w21 ⟨rfl, f21, k21⟩
    have K21 := Lib.hid k21
    have F21 := Lib.hid (F20.out.trans f21)
    have A21 := Lib.hid (A20.out.fr f21 HNA.out)
    have hcl := A21.out.cell 0
    have hfz := A21.out.frozen 0
    simp only [List.getElem?_toArray, List.getElem?_cons_zero] at hcl
    clear k21 f21 F20 A20
    go_wp2_with fail
    refine leaves_cons (f := 50) (args := #[.pointer (some ⟨W.heap.size, 0, none⟩)]) (by simp) (by simp [go_sem]) ?_
    refine (ncaught_idle _ _).mono ?_
    rintro e u' w'' ⟨rfl, rfl, rfl⟩
    have hr := (A21.out.set 0 (.int .i64 0)).cell 0
    simp only [List.setIfInBounds_toArray, List.set_cons_zero, List.getElem?_toArray, List.getElem?_cons_zero] at hr
    simp [Leaves, settle, results, Tryz.results57, go_sem, hr]
    exact ⟨F21.out.setCell (.inr (Nat.le_refl _)) _, HEnd1.out h0' _ T _ (WB.own g0.out.wb K21.out 0 _) s11 RR.out hT⟩
  · have hq1 : ((p : Int) != 0) = true := by rw [hp1, decide_eq_false h0']; rfl
    clear hp1 HEnd1
    go_wp2_with fail
    with_reducible refine (HHe.out h0' _ _ K10.out).mono ?_
    rintro e w11 ⟨rfl, f11, v11, k11, s12, r12⟩
    have K12 := Lib.hid k11
    have F12 := Lib.hid (F10.out.trans f11)
    have A12 := Lib.hid (A10.out.fr f11 HNA.out)
    have s12'' : v11.sl = u.sl := s12.trans s11
    have r13 : v11.rt 17 = l.length := by rw [r12]; exact r11
    have RR2 := Lib.hid (r12.trans RR.out)
    clear k11 f11 F10 A10 K10 HHe
    go_wp2_with fail
    with_reducible refine (HIn.out _ _ _ K12.out s12'').mono ?_
    rintro e w20 ⟨rfl, f20, T, k20, hT⟩
    have K20 := Lib.hid k20
    have F20 := Lib.hid (F12.out.trans f20)
    have A20 := Lib.hid (A12.out.fr f20 HNA.out)
    clear k20 f20 F12 A12
    go_wp2_with fail
    have rT : (v11.wsl T).rt 17 = l.length := r13
    with_reducible refine (HCo.out _ _ _ K20.out rT).mono ?_
    rintro e w21 ⟨rfl, f21, k21⟩
    have K21 := Lib.hid k21
    have F21 := Lib.hid (F20.out.trans f21)
    have A21 := Lib.hid (A20.out.fr f21 HNA.out)
    have hcl := A21.out.cell 0
    have hfz := A21.out.frozen 0
    simp only [List.getElem?_toArray, List.getElem?_cons_zero] at hcl
    clear k21 f21 F20 A20
    go_wp2_with fail
    refine leaves_cons (f := 50) (args := #[.pointer (some ⟨W.heap.size, 0, none⟩)]) (by simp) (by simp [go_sem]) ?_
    refine (ncaught_idle _ _).mono ?_
    rintro e u' w'' ⟨rfl, rfl, rfl⟩
    have hr := (A21.out.set 0 (.int .i64 0)).cell 0
    simp only [List.setIfInBounds_toArray, List.set_cons_zero, List.getElem?_toArray, List.getElem?_cons_zero] at hr
    simp [Leaves, settle, results, Tryz.results57, go_sem, hr]
    exact ⟨F21.out.setCell (.inr (Nat.le_refl _)) _, HEnd2.out h0' _ T _ (WB.own g0.out.wb K21.out 0 _) s12'' RR2.out hT⟩
end
end Go.Proofs.YtellbfamofilaaaGreatDoor

/- node.drop: the index's slots, too. -/
namespace Go.Proofs.YtellbfamofilaaaGreatDoor
set_option linter.unusedVariables false
set_option linter.unusedSimpArgs false
open Go.RowKit

section
variable {w0 W W' : World} {q : MH} {S S' : SS} {x y n c p : Nat} {u v : TM} {L L' : Nat → Prop} {l : List Nat} {E E' : Nat → HB} {B : Nat → List Nat} {X : HB} {b : List Nat}
set_option maxRecDepth 100000 in
theorem ndropS (g : NI w0 q S L l u E B W) (hx : x ∈ l) (hno : ∀ y ∈ l, (E y).name ≠ x) (hX : E x = X) :
    Calls Tryz.prog 54 #[.pointer (some ⟨q.m, 0, none⟩), .int .i64 x, X.val] W fun e w' => e = .returned (.int .i64 X.name) ∧ Fr q.blocks W w' ∧ ∃ S' v, NI w0 q S' (fun y => L y ∧ y ≠ x) (l.erase x) v E B w' ∧ RtQ u v ∧ (∀ y m, Lv 7 S' y m ↔ Lv 7 S y m ∧ y ≠ x) ∧ v.sl = delT (hmE u E) u.sl x := by
  have hL := (g.mem x).1 hx
  have hx0 := (g.lt hx).1
  have hlv : ∃ m, Lv 7 S x m := g.wb.lv hL.1
  obtain ⟨m, hm⟩ := hlv
  have hlp : 1 ≤ l.length := List.length_pos_of_mem hx
  have few := g.few
  have hlt := g.wb.lt
  have HNA := Lib.hid (show W.heap.size ∉ q.blocks from fun hm => by have := hlt _ hm; omega)
  have hnm : X.name < 1048576 := by
    rw [← hX]
    rcases g.up x hx with e | e
    · omega
    · exact (g.lt e).2
  have wn : IntKind.i64.wrap (X.name : Int) = (X.name : Int) := IntWalk.i64_in _ (by omega)
  have H0 := Lib.hid (g.fr0 ((Fr.refl [] W).alloc (.cells X.cells 89)))
  have F0 := Lib.hid ((Fr.refl q.blocks W).alloc (.cells X.cells 89))
  have A0 := Lib.hid (Blk.new W 89 X.cells)
  have HD := Lib.hid (fun V (hV : NI w0 q S L l u E B V) => wb_delS hV.wb hL.1 ((g.inx x hx0).2 hL.1))
  have HG := Lib.hid (fun V T (hV : WB w0 q S L (u.wsl T) E B V) (hT : DelT (hmE u E) u.sl x T) => wb_give hV hm (fun i hi e => by
    have : InT 224 T x := ⟨i, hi, e⟩
    exact ((hT.1 x hx0).1 this).2 rfl))
  have hcnt := g.cnt
  have HC := Lib.hid (fun V S' (v : TM) (hV : WB w0 q S' (fun y => L y ∧ y ≠ x) v E B V) (hr : v.rt 17 = l.length) => wb_cnt hV (-1) (l.length - 1) (by rw [hr]; omega) (by omega) (by omega))
  have HE := Lib.hid (fun V S' (v : TM) (T : Nat → Nat) (hV : WB w0 q S' (fun y => L y ∧ y ≠ x) (v.setRt 17 (l.length - 1)) E B V) (hs : v.sl = T) (hT : DelT (hmE u E) u.sl x T) =>
    (show NI w0 q S' (fun y => L y ∧ y ≠ x) (l.erase x) (v.setRt 17 (l.length - 1)) E B V from g.del hx hno hV (show up v.rt 17 (l.length - 1) 17 = l.length - 1 from up_same _ _ _) (by show ∀ y, y ≠ 0 → (InT 224 v.sl y ↔ _); rw [hs]; exact hT.1)))
  have HC17 := Lib.hid hcnt
  have g0 := Lib.hid g
  clear hcnt hlt few hlp hnm hX hm hx0 hL hno hx g
  obtain ⟨x1, x2, x3, x4, x5, x6, x7, x8, x9, x10, x11, x12⟩ := X
  simp only [] at wn
  show Calls Tryz.prog 54 #[.pointer (some ⟨q.m, 0, none⟩), .int .i64 x, .agg #[.int .i64 x1, .int .i64 x2, .bool x3, .int .i64 x4, .int .u32 x5, .int .u32 x6, .int .u32 x7, .int .u32 x8, .int .u64 x9, .int .u16 x10, .int .i64 x11, .int .u32 x12]] W fun e w' => e = .returned (.int .i64 x5) ∧ Fr q.blocks W w' ∧ ∃ S' v, NI w0 q S' (fun y => L y ∧ y ≠ x) (l.erase x) v E B w' ∧ RtQ u v ∧ (∀ y m, Lv 7 S' y m ↔ Lv 7 S y m ∧ y ≠ x) ∧ v.sl = delT (hmE u E) u.sl x
  have A0' : Hid (Blk (W.alloc (.cells #[.int .i64 x1, .int .i64 x2, .bool x3, .int .i64 x4, .int .u32 x5, .int .u32 x6, .int .u32 x7, .int .u32 x8, .int .u64 x9, .int .u16 x10, .int .i64 x11, .int .u32 x12] 89)) W.heap.size 89 #[.int .i64 x1, .int .i64 x2, .bool x3, .int .i64 x4, .int .u32 x5, .int .u32 x6, .int .u32 x7, .int .u32 x8, .int .u64 x9, .int .u16 x10, .int .i64 x11, .int .u32 x12]) := A0
  have H0' : Hid (NI w0 q S L l u E B (W.alloc (.cells #[.int .i64 x1, .int .i64 x2, .bool x3, .int .i64 x4, .int .u32 x5, .int .u32 x6, .int .u32 x7, .int .u32 x8, .int .u64 x9, .int .u16 x10, .int .i64 x11, .int .u32 x12] 89))) := H0
  have F0' : Hid (Fr q.blocks W (W.alloc (.cells #[.int .i64 x1, .int .i64 x2, .bool x3, .int .i64 x4, .int .u32 x5, .int .u32 x6, .int .u32 x7, .int .u32 x8, .int .u64 x9, .int .u16 x10, .int .i64 x11, .int .u32 x12] 89))) := F0
  clear A0 H0 F0
  go_enter Tryz.func54, Tryz.ntmps54
  go_wp2_with fail
  with_reducible refine (HD.out _ H0'.out).mono ?_
  rintro e w1 ⟨rfl, f1, T, k1, hT⟩
  have K1 := Lib.hid k1
  have F1 := Lib.hid (F0'.out.trans f1)
  have A1 := Lib.hid (A0'.out.fr f1 HNA.out)
  clear k1 f1 A0' F0' HD
  go_wp2_with fail
  with_reducible refine (HG.out _ T K1.out hT).mono ?_
  rintro e w2 ⟨rfl, f2, S2, v2, sla, k2, hlv⟩
  have K2 := Lib.hid k2
  have F2 := Lib.hid (F1.out.trans f2)
  have A2 := Lib.hid (A1.out.fr f2 HNA.out)
  have r2 : v2.rt 17 = l.length := (sla.rt 17 (.inr (by decide))).trans HC17.out
  have s2 : v2.sl = T := sla.sl
  have q2 := Lib.hid (show RtQ u v2 from fun f _ h => sla.rt f h)
  clear k2 f2 A1 F1 HG sla
  go_wp2_with fail
  with_reducible refine (HC.out _ S2 v2 K2.out r2).mono ?_
  rintro e w3 ⟨rfl, f3, k3⟩
  have K3 := Lib.hid k3
  have F3 := Lib.hid (F2.out.trans f3)
  have A3 := Lib.hid (A2.out.fr f3 HNA.out)
  have hc4 := A3.out.cell 4
  simp only [List.getElem?_toArray, List.getElem?_cons_zero, List.getElem?_cons_succ] at hc4
  clear k3 f3 A2 F2 HC
  go_wp2_with fail
  go_ret
  exact ⟨rfl, F3.out, S2, _, HE.out _ S2 v2 T K3.out s2 hT, q2.out.trans (RtQ.set v2 _), hlv, s2.trans hT.2⟩
end
end Go.Proofs.YtellbfamofilaaaGreatDoor

/- node.Let: the index's slots, too. -/
namespace Go.Proofs.YtellbfamofilaaaGreatDoor
set_option linter.unusedVariables false
set_option linter.unusedSimpArgs false
open Go.RowKit

section
variable {w0 W W' : World} {q : MH} {S S' : SS} {x y n c p : Nat} {u v : TM} {L L' : Nat → Prop} {l : List Nat} {E E' : Nat → HB} {B : Nat → List Nat} {X : HB} {b : List Nat}
theorem ni_heldS (g : NI w0 q S L l u E B W) (hx : x ∈ l) {r : Nat} (hr : (E x).refs = r + 1) : Calls Tryz.prog 53 #[.pointer (some ⟨q.m, 0, none⟩), .int .i64 x, .int .i64 (-1)] W fun e w' => e = .returned (.int .i64 r) ∧ Fr q.blocks W w' ∧ ∃ v, NI w0 q S L l v (up E x { E x with refs := r }) B w' ∧ RtQ u v ∧ v.sl = u.sl := by
  have hm := (g.mem x).1 hx
  have hb := (g.wb.ix.e x hm.1).ok.refs
  refine (wb_held g.wb hm.1 hm.2 (-1) r (by omega) (by omega) (by omega)).mono fun e w' ⟨h1, h2, v, h3, h4, h5⟩ => ⟨h1, h2, v, g.re h3 (up_refs E x r) h4 (by rw [h5]), RtQ.eq h5, h4⟩
theorem ni_dropS (g : NI w0 q S L l u E B W) (hx : x ∈ l) (hno : ∀ y ∈ l, (E y).name ≠ x) (a1 a2 a4 a11 : Int) (a3 : Bool) (a5 a6 a7 a8 a9 a10 a12 : Nat) (hX : E x = ⟨a1, a2, a3, a4, a5, a6, a7, a8, a9, a10, a11, a12⟩) :
    Calls Tryz.prog 54 #[.pointer (some ⟨q.m, 0, none⟩), .int .i64 x, .agg #[.int .i64 a1, .int .i64 a2, .bool a3, .int .i64 a4, .int .u32 a5, .int .u32 a6, .int .u32 a7, .int .u32 a8, .int .u64 a9, .int .u16 a10, .int .i64 a11, .int .u32 a12]] W fun e w' => e = .returned (.int .i64 a5) ∧ Fr q.blocks W w' ∧ ∃ S' L' v, NI w0 q S' L' (l.erase x) v E B w' ∧ (AllN S l → AllN S' (l.erase x)) ∧ RtQ u v ∧ v.sl = delT (hmE u E) u.sl x :=
  (ndropS g hx hno hX).mono fun e w' ⟨h1, h2, S', v, h3, hq, h4, hsl⟩ => ⟨h1, h2, S', _, v, h3, fun ha y m hy => (by
    have := (h4 y m).1 hy
    exact (g.nd.mem_erase_iff).2 ⟨this.2, ha y m this.1⟩), hq, hsl⟩
set_option maxRecDepth 100000 in
set_option maxHeartbeats 4000000 in
theorem nletS (g : NI w0 q S L l u E B W) (own : Nat → Nat) (hx : x ∈ l) (hI : LetI l E own x 0 l E) :
    Calls Tryz.prog 14 #[.pointer (some ⟨q.m, 0, none⟩), .int .i64 x] W fun e w' => ∃ k S1 L1 l1 u1 E1, e = .returned (.tuple #[.int .i64 (k : Nat), .int .i64 0]) ∧ Fr q.blocks W w' ∧ NI w0 q S1 L1 l1 u1 E1 B w' ∧ LetD l E own k l1 E1 ∧ (AllN S l → AllN S1 l1) ∧ RtQ u u1 ∧ u1.sl = slK (hmE u E) (fun y => (E y).name) u.sl x k := by
  have few := g.few
  have hlt := g.wb.lt
  have hr := hI.rf x hx
  rw [if_pos rfl] at hr
  have HRp := Lib.hid (show 0 < (E x).refs from by omega)
  have HNA := Lib.hid (show W.heap.size ∉ q.blocks from fun hm => by have := hlt _ hm; omega)
  have H0 := Lib.hid (g.fr0 ((Fr.refl [] W).alloc (.cells #[.int .i64 0] 32)))
  have F0 := Lib.hid ((Fr.refl q.blocks W).alloc (.cells #[.int .i64 0] 32))
  have A0 := Lib.hid (Blk.new W 32 #[.int .i64 0])
  have HM := Lib.hid (nmade H0.out.wb.h.m)
  have HG := Lib.hid (fun V (hV : NI w0 q S L l u E B V) => hV.getX hx)
  have g0 := Lib.hid g
  have HI := Lib.hid hI
  clear hlt hr hI hx g
  generalize hN : l.length = N at *
  have HN := Lib.hid hN
  clear hN
  go_enter_defers Tryz.func14, Tryz.ntmps14
  go_wp2_with fail
  with_reducible refine HM.out.mono ?_
  rintro e w1 ⟨rfl, f1⟩
  have K1 := Lib.hid (H0.out.fr0 f1)
  have F1 := Lib.hid (F0.out.trans f1.nil)
  have A1 := Lib.hid (A0.out.fr f1 (by simp))
  clear f1 HM H0 F0 A0
  go_wp2_with fail
  with_reducible refine (nsure_ok _ _).mono ?_
  rintro e w1' ⟨rfl, rfl⟩
  go_wp2_with fail
  with_reducible refine (HG.out _ K1.out).mono ?_
  rintro e w2 ⟨a1, a2, a4, a11, a3, a5, a6, a7, a8, a9, a10, a12, hX, rfl, f2, k2⟩
  have h8 : 0 < a8 := by have := HRp.out; rw [hX] at this; exact this
  have hrp : decide ((0 : Int) < (a8 : Int)) = true := decide_eq_true (by omega)
  have hrp' : decide (0 < a8) = true := decide_eq_true h8
  clear h8 hX HRp
  have K2 := Lib.hid k2
  have F2 := Lib.hid (F1.out.trans f2)
  have A2 := Lib.hid (A1.out.fr f2 HNA.out)
  clear k2 f2 K1 F1 A1 HG
  go_wp2_with fail
  have B3 := Lib.hid (Blk.new w2 89 #[.int .i64 a1, .int .i64 a2, .bool a3, .int .i64 a4, .int .u32 a5, .int .u32 a6, .int .u32 a7, .int .u32 a8, .int .u64 a9, .int .u16 a10, .int .i64 a11, .int .u32 a12])
  have K3 := Lib.hid (K2.out.fr0 ((Fr.refl [] w2).alloc (.cells #[.int .i64 a1, .int .i64 a2, .bool a3, .int .i64 a4, .int .u32 a5, .int .u32 a6, .int .u32 a7, .int .u32 a8, .int .u64 a9, .int .u16 a10, .int .i64 a11, .int .u32 a12] 89)))
  have F3 := Lib.hid (F2.out.alloc (.cells #[.int .i64 a1, .int .i64 a2, .bool a3, .int .i64 a4, .int .u32 a5, .int .u32 a6, .int .u32 a7, .int .u32 a8, .int .u64 a9, .int .u16 a10, .int .i64 a11, .int .u32 a12] 89))
  have A3 := Lib.hid (A2.out.alloc (.cells #[.int .i64 a1, .int .i64 a2, .bool a3, .int .i64 a4, .int .u32 a5, .int .u32 a6, .int .u32 a7, .int .u32 a8, .int .u64 a9, .int .u16 a10, .int .i64 a11, .int .u32 a12] 89))
  have hc7 := B3.out.cell 7
  simp only [List.getElem?_toArray, List.getElem?_cons_zero, List.getElem?_cons_succ] at hc7
  clear K2 F2 A2 B3
  generalize hw3 : w2.alloc (.cells #[.int .i64 a1, .int .i64 a2, .bool a3, .int .i64 a4, .int .u32 a5, .int .u32 a6, .int .u32 a7, .int .u32 a8, .int .u64 a9, .int .u16 a10, .int .i64 a11, .int .u32 a12] 89) = w3 at *
  have hw3' := Lib.hid hw3
  clear hw3
  with_reducible refine (nsure_ok _ _).mono ?_
  rintro e w3' ⟨rfl, rfl⟩
  go_wp2_with fail
  with_reducible refine (nsure_ok _ _).mono ?_
  rintro e w4 ⟨rfl, rfl⟩
  go_wp2_with fail
  go_loopw [1, 4] (fun v1 v4 V => ∃ x1 k : Nat, ∃ S1 L1 l1 u1 E1, v1 = .int .i64 x1 ∧ v4 = .int .i64 k ∧ Hid (LetI l E own x1 k l1 E1) ∧ Hid (NI w0 q S1 L1 l1 u1 E1 B V) ∧ Hid (AllN S l → AllN S1 l1) ∧ Hid (RtQ u u1 ∧ x1 = parK (fun y => (E y).name) x k ∧ u1.sl = slK (hmE u E) (fun y => (E y).name) u.sl x k) ∧ Hid (Fr q.blocks W V) ∧ Hid (Blk V W.heap.size 32 #[.int .i64 0])) (fun _ v4 _ => N - (intOf v4).toNat)
  case atStart => exact ⟨x, 0, _, _, _, _, _, rfl, rfl, HI, K3, Lib.hid id, Lib.hid ⟨RtQ.refl u, rfl, rfl⟩, F3, A3⟩
  case round =>
    clear K3 F3 A3 HI
    obtain ⟨x1, k, S1, L1, l1, u1, E1, rfl, rfl, I4, K4, N4, Q4, F4, A4⟩ := hrel
    have hcl := A4.out.cell 0
    have hfz := A4.out.frozen 0
    simp only [List.getElem?_toArray, List.getElem?_cons_zero] at hcl
    rcases I4.out.at_ with e0 | hx1
    · subst e0
      have D4 := I4.out.zero (fun y hy => (K4.out.lt hy).1)
      clear I4
      go_wp2_with fail
      clear hcl
      refine leaves_cons (f := 50) (args := #[.pointer (some ⟨W.heap.size, 0, none⟩)]) (by simp) (by simp [go_sem]) ?_
      refine (ncaught_idle _ _).mono ?_
      rintro e u' w'' ⟨rfl, rfl, rfl⟩
      have hr := (A4.out.set 0 (.int .i64 0)).cell 0
      simp only [List.setIfInBounds_toArray, List.set_cons_zero, List.getElem?_toArray, List.getElem?_cons_zero] at hr
      simp [Leaves, settle, results, Tryz.results14, go_sem, hr]
      exact ⟨k, rfl, F4.out.setCell (.inr (Nat.le_refl _)) _, S1, L1, l1, _, _, NI.re K4.out (WB.own g0.out.wb K4.out.wb 0 _) (fun y => ⟨rfl, rfl, rfl⟩) rfl rfl, D4, N4.out, Q4.out.1, Q4.out.2.2⟩
    · obtain ⟨r, hr⟩ : ∃ r, (E1 x1).refs = r + 1 := ⟨_, by have := I4.out.rf x1 hx1; rw [if_pos rfl] at this; exact this⟩
      have hx0 := (K4.out.lt hx1).1
      have hxs := (K4.out.lt hx1).2
      have hq1 : ((x1 : Int) != 0) = true := by simp; omega
      have HHe := Lib.hid (ni_heldS K4.out hx1 hr)
      have hn4 := I4.out.n
      have wk : IntKind.i64.wrap ((k : Int) + 1) = ((k + 1 : Nat) : Int) := by rw [IntWalk.i64_in _ (by have := HN.out; omega)]; push_cast; rfl
      have hx1' := Lib.hid hx1
      have hr' := Lib.hid hr
      have hx0' := Lib.hid hx0
      have hn4' := Lib.hid hn4
      have HLp := Lib.hid (show 1 ≤ l1.length from List.length_pos_of_mem hx1)
      clear hx1 hr hcl hfz hx0 hxs hn4
      go_wp2_with fail
      with_reducible refine HHe.out.mono ?_
      rintro e w5 ⟨rfl, f5, v5, k5, q5⟩
      have K5 := Lib.hid k5
      have Q5 := Lib.hid (And.intro (Q4.out.1.trans q5.1) (And.intro Q4.out.2.1 (q5.2.trans Q4.out.2.2)))
      have F5 := Lib.hid (F4.out.trans f5)
      have A5 := Lib.hid (A4.out.fr f5 HNA.out)
      have hcl := A5.out.cell 0
      have hfz := A5.out.frozen 0
      simp only [List.getElem?_toArray, List.getElem?_cons_zero] at hcl
      clear k5 q5 f5 F4 A4 HHe
      by_cases hr0 : r = 0
      · subst hr0
        have hf := I4.out.free hx1'.out hr'.out
        have I5 := Lib.hid (I4.out.drop K4.out.nd hx1'.out hr'.out (K4.out.up x1 hx1'.out))
        have HGt := Lib.hid (fun V (hV : NI w0 q S1 L1 l1 v5 (up E1 x1 { E1 x1 with refs := 0 }) B V) => hV.getX hx1'.out)
        have hno : ∀ y ∈ l1, (up E1 x1 { E1 x1 with refs := 0 } y).name ≠ x1 := fun y hy => by rw [(I4.out.he2 0 y).2.1]; exact hf.2 y hy
        have HDr := Lib.hid (fun V (hV : NI w0 q S1 L1 l1 v5 (up E1 x1 { E1 x1 with refs := 0 }) B V) => ni_dropS hV hx1'.out hno)
        have HHM := Lib.hid (show hmE v5 (up E1 x1 { E1 x1 with refs := 0 }) = hmE u E from funext fun y => by unfold hmE; rw [(I4.out.he2 0 y).2.2, K5.out.wb.s, g0.out.wb.s])
        have HN1 := Lib.hid (show (E1 x1).name = (E x1).name from (I4.out.he x1).2.1)
        have HNm := Lib.hid (show (up E1 x1 { E1 x1 with refs := 0 } x1).name = (E1 x1).name from (up_refs E1 x1 0 x1).2.1)
        clear hf hno I4 K4 hcl hfz
        go_wp2_with fail
        with_reducible refine (HGt.out _ K5.out).mono ?_
        rintro e w6 ⟨a1, a2, a4, a11, a3, a5, a6, a7, a8, a9, a10, a12, hX, rfl, f6, k6⟩
        have K6 := Lib.hid k6
        have F6 := Lib.hid (F5.out.trans f6)
        have A6 := Lib.hid (A5.out.fr f6 HNA.out)
        have hX' := Lib.hid hX
        clear k6 f6 F5 A5 HGt hX
        go_wp2_with fail
        with_reducible refine (HDr.out _ (K6.out.fr0 ((Fr.refl [] w6).alloc (.cells #[.int .i64 a1, .int .i64 a2, .bool a3, .int .i64 a4, .int .u32 a5, .int .u32 a6, .int .u32 a7, .int .u32 a8, .int .u64 a9, .int .u16 a10, .int .i64 a11, .int .u32 a12] 89))) a1 a2 a4 a11 a3 a5 a6 a7 a8 a9 a10 a12 hX'.out).mono ?_
        rintro e w7 ⟨rfl, f7, S7, L7, v7, k7, n7, q7⟩
        have K7 := Lib.hid k7
        have N7 := Lib.hid (fun h => n7 (N4.out h))
        have F7 := Lib.hid ((F6.out.alloc (.cells #[.int .i64 a1, .int .i64 a2, .bool a3, .int .i64 a4, .int .u32 a5, .int .u32 a6, .int .u32 a7, .int .u32 a8, .int .u64 a9, .int .u16 a10, .int .i64 a11, .int .u32 a12] 89)).trans f7)
        have A7 := Lib.hid ((A6.out.alloc (.cells #[.int .i64 a1, .int .i64 a2, .bool a3, .int .i64 a4, .int .u32 a5, .int .u32 a6, .int .u32 a7, .int .u32 a8, .int .u64 a9, .int .u16 a10, .int .i64 a11, .int .u32 a12] 89)).fr f7 HNA.out)
        have h5 : a5 = (E1 x1).name := by rw [← HNm.out, hX'.out]
        have Q7 := Lib.hid (show RtQ u v7 ∧ a5 = parK (fun y => (E y).name) x (k + 1) ∧ v7.sl = slK (hmE u E) (fun y => (E y).name) u.sl x (k + 1) from ⟨Q5.out.1.trans q7.1, by rw [h5, HN1.out, Q5.out.2.1]; rfl, by rw [q7.2, HHM.out, Q5.out.2.2, Q5.out.2.1]; rfl⟩)
        have I7 := Lib.hid (show LetI l E own a5 (k + 1) (l1.erase x1) (up E1 x1 { E1 x1 with refs := 0 }) from h5 ▸ I5.out)
        clear k7 n7 q7 f7 F6 A6 HDr h5 I5
        go_wp2_with fail
        go_roundw
        case rel => exact ⟨a5, k + 1, S7, L7, _, v7, _, rfl, rfl, I7, K7, N7, Q7, F7, A7⟩
        case measure => simp [intOf]; have := hn4'.out; have := HLp.out; have := HN.out; omega
      · have D5 := I4.out.keep hx1'.out hr'.out hr0
        have hq2 : ((r : Int) == 0) = false := by simp; omega
        clear I4 K4
        go_wp2_with fail
        clear hcl
        refine leaves_cons (f := 50) (args := #[.pointer (some ⟨W.heap.size, 0, none⟩)]) (by simp) (by simp [go_sem]) ?_
        refine (ncaught_idle _ _).mono ?_
        rintro e u' w'' ⟨rfl, rfl, rfl⟩
        have hr := (A5.out.set 0 (.int .i64 0)).cell 0
        simp only [List.setIfInBounds_toArray, List.set_cons_zero, List.getElem?_toArray, List.getElem?_cons_zero] at hr
        simp [Leaves, settle, results, Tryz.results14, go_sem, hr]
        exact ⟨k, rfl, F5.out.setCell (.inr (Nat.le_refl _)) _, S1, L1, l1, _, _, NI.re K5.out (WB.own g0.out.wb K5.out.wb 0 _) (fun y => ⟨rfl, rfl, rfl⟩) rfl rfl, D5, N4.out, Q5.out.1, Q5.out.2.2⟩
end
end Go.Proofs.YtellbfamofilaaaGreatDoor

/- The index's slots without a block: by hashes that are alike. -/
namespace Go.Proofs.YtellbfamofilaaaGreatDoor
set_option linter.unusedVariables false
set_option linter.unusedSimpArgs false
open Go.RowKit

/-- All slots name nodes of l, or none. -/
def SubT (T : Nat → Nat) (l : List Nat) : Prop := ∀ s, s < 224 → T s = 0 ∨ T s ∈ l
section
variable {T H H' p p' : Nat → Nat} {l : List Nat} {x : Nat}
theorem md224 (i : Nat) : i % 224 < 224 := Nat.mod_lt _ (by decide)
theorem farT_congr (hT : SubT T l) (hH : ∀ y ∈ l, H y = H' y) (i : Nat) (h0 : T (i % 224) ≠ 0) : farT T H 224 i = farT T H' 224 i := by
  unfold farT
  rw [hH _ ((hT _ (md224 i)).resolve_left h0)]
theorem endB_congr (hT : SubT T l) (hH : ∀ y ∈ l, H y = H' y) (i k : Nat) : endB T H 224 i k = endB T H' 224 i k := by
  unfold endB
  by_cases h0 : T (i % 224) = 0
  · rw [if_pos h0, if_pos h0]
  · rw [if_neg h0, if_neg h0, farT_congr hT hH i h0]
theorem fndS_congr (hT : SubT T l) (hH : ∀ y ∈ l, H y = H' y) (h : Nat) (P : Nat → Bool) : ∀ f k, fndS T H 224 h P f k = fndS T H' 224 h P f k
  | 0, k => rfl
  | f + 1, k => by
    unfold fndS
    rw [endB_congr hT hH, fndS_congr hT hH h P f (k + 1)]
theorem SubT.up (hT : SubT T l) (i v : Nat) (hv : v = 0 ∨ v ∈ l) : SubT (_root_.Go.Proofs.YtellbfamofilaaaGreatDoor.up T i v) l := fun s hs => by
  by_cases e : s = i
  · rw [e, up_same]; exact hv
  · rw [up_ne _ _ e]; exact hT s hs
theorem dlS_congr (hH : ∀ y ∈ l, H y = H' y) : ∀ (f i : Nat) (T : Nat → Nat), SubT T l → dlS H 224 f i T = dlS H' 224 f i T
  | 0, i, T, hT => rfl
  | f + 1, i, T, hT => by
    unfold dlS
    by_cases h0 : T ((i + 1) % 224) = 0
    · rw [if_pos (.inl h0), if_pos (.inl h0)]
    · rw [farT_congr hT hH (i + 1) h0]
      by_cases h1 : farT T H' 224 (i + 1) = 0
      · rw [if_pos (.inr h1), if_pos (.inr h1)]
      · rw [if_neg (fun h => h.elim h0 h1), if_neg (fun h => h.elim h0 h1)]
        exact dlS_congr hH f (i + 1) _ (hT.up _ _ (hT _ (md224 _)))
theorem dlS_sub : ∀ (f i : Nat) (T : Nat → Nat), SubT T l → SubT (dlS H 224 f i T) l
  | 0, i, T, hT => hT.up _ _ (.inl rfl)
  | f + 1, i, T, hT => by
    unfold dlS
    split
    · exact hT.up _ _ (.inl rfl)
    · exact dlS_sub f (i + 1) _ (hT.up _ _ (hT _ (md224 _)))
theorem delT_congr (hT : SubT T l) (hH : ∀ y ∈ l, H y = H' y) (hx : x ∈ l) : delT H T x = delT H' T x := by
  unfold delT fndT
  rw [hH x hx, fndS_congr hT hH]
  split
  · exact dlS_congr hH _ _ _ hT
  · rfl
theorem delT_sub (hT : SubT T l) : SubT (delT H T x) l := by
  unfold delT
  split
  · exact dlS_sub _ _ _ hT
  · exact hT
theorem slK_sub (hT : SubT T l) : ∀ k, SubT (slK H p T x k) l
  | 0 => hT
  | k + 1 => delT_sub (slK_sub hT k)
theorem slK_congr (hT : SubT T l) (hH : ∀ y ∈ l, H y = H' y) (hp : ∀ y ∈ l, p y = p' y) : ∀ k, (∀ i, i < k → parK p x i ∈ l) → slK H p T x k = slK H' p' T x k ∧ parK p x k = parK p' x k
  | 0, _ => ⟨rfl, rfl⟩
  | k + 1, h => by
    obtain ⟨h1, h2⟩ := slK_congr hT hH hp k (fun i hi => h i (by omega))
    have hk := h k (by omega)
    refine ⟨?_, ?_⟩
    · show delT H (slK H p T x k) (parK p x k) = delT H' (slK H' p' T x k) (parK p' x k)
      rw [delT_congr (slK_sub hT k) hH hk, h1, h2]
    · show p (parK p x k) = p' (parK p' x k)
      rw [hp _ hk, h2]
theorem parK_shift : ∀ k, parK p x (k + 1) = parK p (p x) k
  | 0 => rfl
  | k + 1 => by
    show p (parK p x (k + 1)) = p (parK p (p x) k)
    rw [parK_shift k]
theorem slK_shift : ∀ k, slK H p T x (k + 1) = slK H p (delT H T x) (p x) k
  | 0 => rfl
  | k + 1 => by
    show delT H (slK H p T x (k + 1)) (parK p x (k + 1)) = delT H (slK H p (delT H T x) (p x) k) (parK p (p x) k)
    rw [slK_shift k, parK_shift k]
end
end Go.Proofs.YtellbfamofilaaaGreatDoor

/- A world of nodes with the index's slots, each block's hash and parent. -/
namespace Go.Proofs.YtellbfamofilaaaGreatDoor
set_option linter.unusedVariables false
set_option linter.unusedSimpArgs false
open Go.RowKit

/-- How many slabs are free; the slots; the hashes; the parents. -/
structure Gh where
  n : Nat
  T : Nat → Nat
  h : Nat → Nat
  p : Nat → Nat
/-- Where a block is at home. -/
def Gh.H (g : Gh) (y : Nat) : Nat := g.h y % 224
def NG (w0 : World) (q : MH) (u0 : TM) (l : List Nat) (par refs : Nat → Nat) (B : Nat → List Nat) (fr : Gh) (W : World) : Prop :=
  ∃ S L u E B0, NI w0 q S L l u E B0 W ∧ AllN S l ∧ RtQ u0 u ∧ (∀ y ∈ l, (E y).name = par y ∧ (E y).refs = refs y ∧ B0 y = B y) ∧ (lst 7 S.inn 0).length = fr.n ∧ u.sl = fr.T ∧ ∀ y, (E y).hash = fr.h y ∧ (E y).name = fr.p y
section
variable {w0 W W' : World} {q : MH} {u0 : TM} {l : List Nat} {par refs own : Nat → Nat} {B : Nat → List Nat} {fr : Gh} {x p c : Nat} {b : List Nat}
theorem NG.np (h : NG w0 q u0 l par refs B fr W) : NP w0 q u0 l par refs B fr.n W := by
  obtain ⟨S, L, u, E, B0, g, ha, hr, r, hf, _⟩ := h
  exact ⟨S, L, u, E, B0, g, ha, hr, r, hf⟩
theorem NP.ng {n : Nat} (h : NP w0 q u0 l par refs B n W) : ∃ fr : Gh, fr.n = n ∧ NG w0 q u0 l par refs B fr W := by
  obtain ⟨S, L, u, E, B0, g, ha, hr, r, hf⟩ := h
  exact ⟨⟨n, u.sl, fun y => (E y).hash, fun y => (E y).name⟩, rfl, S, L, u, E, B0, g, ha, hr, r, hf, rfl, fun y => ⟨rfl, rfl⟩⟩
theorem NG.fr0 (h : NG w0 q u0 l par refs B fr W) (hf : Fr [] W W') : NG w0 q u0 l par refs B fr W' := by
  obtain ⟨S, L, u, E, B0, g, r⟩ := h
  exact ⟨S, L, u, E, B0, g.fr0 hf, r⟩
theorem NG.sub (h : NG w0 q u0 l par refs B fr W) : SubT fr.T l := by
  obtain ⟨S, L, u, E, B0, g, ha, hr, r, hf, hT, hh⟩ := h
  intro s hs
  rw [← hT]
  rcases g.wb.ix.sl s (by rw [g.wb.s]; exact hs) with k | k
  · exact .inl k
  · obtain ⟨m, hm⟩ := g.wb.lv k
    exact .inr (ha _ _ hm)
theorem gp_find (h : NG w0 q u0 l par refs B fr W) (hp : p = 0 ∨ p ∈ l) (hb : ∀ k ∈ b, k < 256) :
    Calls Tryz.prog 21 #[.pointer (some ⟨q.m, 0, none⟩), .int .i64 p, .string (strOf b)] W fun e w' => e = .returned (if labOk b then ansN (fndP l par B p (b.map lowB)) else ansN none) ∧ NG w0 q u0 l par refs B fr w' ∧ Fr q.blocks W w' := by
  obtain ⟨S, L, u, E, B0, g, ha, hr, r, hf⟩ := h
  have := nfind g p hp b hb
  rw [fndN_P r] at this
  exact this.mono fun e w' ⟨h1, h2, h3⟩ => ⟨h1, ⟨S, L, u, E, B0, g.same h2 h3, ha, hr, r, hf⟩, h3⟩
theorem gp_count (h : NG w0 q u0 l par refs B fr W) : Calls Tryz.prog 18 #[.pointer (some ⟨q.m, 0, none⟩)] W fun e w' => e = .returned (.int .i64 l.length) ∧ NG w0 q u0 l par refs B fr w' ∧ Fr q.blocks W w' := by
  obtain ⟨S, L, u, E, B0, g, ha, hr, r, hf⟩ := h
  have := ncount g.wb.h
  rw [g.cnt] at this
  exact this.mono fun e w' ⟨h1, h2, h3⟩ => ⟨h1, ⟨S, L, u, E, B0, g.same h2 h3, ha, hr, r, hf⟩, h3⟩
theorem gp_hold (h : NG w0 q u0 l par refs B fr W) (hx : x ∈ l) (hr1 : refs x + 1 < 4294967296) : Calls Tryz.prog 13 #[.pointer (some ⟨q.m, 0, none⟩), .int .i64 x] W fun e w' => e = .returned (.int .i64 0) ∧ NG w0 q u0 l par (_root_.Go.Proofs.YtellbfamofilaaaGreatDoor.up refs x (refs x + 1)) B fr w' ∧ Fr q.blocks W w' := by
  obtain ⟨S, L, u, E, B0, g, ha, hr, r, hf, hT, hh⟩ := h
  have hm := (g.mem x).1 hx
  have := wb_hold g.wb hm.1 hm.2 (by rw [(r x hx).2.1]; exact hr1)
  refine this.mono fun e w' ⟨h1, h2, v, h3, h4, h5⟩ => ⟨h1, ⟨S, L, v, _, B0, g.re h3 (up_refs E x _) h4 (by rw [h5]), ha, hr.trans (RtQ.eq h5), fun y hy => ?_, hf, h4.trans hT, fun y => ⟨(up_refs E x _ y).2.2.trans (hh y).1, (up_refs E x _ y).2.1.trans (hh y).2⟩⟩, h2⟩
  refine ⟨(up_refs E x _ y).2.1.trans (r y hy).1, ?_, (r y hy).2.2⟩
  by_cases e : y = x
  · rw [e, up_same, up_same, ← (r x hx).2.1]
  · rw [up_ne _ _ e, up_ne _ _ e]; exact (r y hy).2.1
/-- What letting does to the slots. -/
def LetG (fr : Gh) (x k : Nat) (fr1 : Gh) : Prop := fr1.h = fr.h ∧ fr1.p = fr.p ∧ fr1.T = slK fr.H fr.p fr.T x k
theorem gp_let (h : NG w0 q u0 l par refs B fr W) (hx : x ∈ l) (hr : ∀ y ∈ l, refs y = own y + bel par l y + (if y = x then 1 else 0)) (hn : ∀ y ∈ l, y ≠ x → own y = 0 → ∃ z ∈ l, par z = y) :
    Calls Tryz.prog 14 #[.pointer (some ⟨q.m, 0, none⟩), .int .i64 x] W fun e w' => ∃ k l1 refs1 fr1, e = .returned (.tuple #[.int .i64 (k : Nat), .int .i64 0]) ∧ Fr q.blocks W w' ∧ NG w0 q u0 l1 par refs1 B fr1 w' ∧ Rem own par l l1 ∧ k + l1.length = l.length ∧ (∀ y ∈ l1, refs1 y = own y + bel par l1 y) ∧ Firm own par l1 ∧ LetG fr x k fr1 := by
  obtain ⟨S, L, u, E, B0, g, ha, hrt, r, hf, hT, hh⟩ := h
  have hnm : ∀ z ∈ l, (E z).name = par z := fun z hz => (r z hz).1
  have hI : LetI l E own x 0 l E := ⟨.refl l, Nat.zero_add _, fun y => ⟨rfl, rfl, rfl⟩, .inr hx, fun y hy => by rw [(r y hy).2.1, hr y hy, bel_congr hnm], fun y hy h1 h2 => by
    obtain ⟨z, hz, e⟩ := hn y hy h1 h2
    exact ⟨z, hz, by rw [hnm z hz]; exact e⟩⟩
  have hH : hmE u E = fr.H := funext fun y => by unfold hmE Gh.H; rw [(hh y).1, g.wb.s]
  have hP : (fun y => (E y).name) = fr.p := funext fun y => (hh y).2
  refine (nletS g own hx hI).mono fun e w' ⟨k, S1, L1, l1, u1, E1, h1, h2, h3, h4, h5, h6, h7⟩ => ⟨k, l1, fun y => (E1 y).refs, ⟨_, u1.sl, fr.h, fr.p⟩, h1, h2, ⟨S1, L1, u1, E1, B0, h3, h5 ha, hrt.trans h6, fun y hy => ?_, rfl, rfl, fun y => ⟨(h4.he y).2.2.trans (hh y).1, (h4.he y).2.1.trans (hh y).2⟩⟩, h4.rem.congr hnm, h4.n, fun y hy => ?_, fun y hy h0 => ?_, rfl, rfl, ?_⟩
  · have hy' := h4.rem.sub.subset hy
    exact ⟨(h4.he y).2.1.trans (hnm y hy'), rfl, (r y hy').2.2⟩
  · show (E1 y).refs = _
    rw [h4.rf y hy, bel_congr (fun z hz => hnm z (h4.rem.sub.subset hz))]
  · obtain ⟨z, hz, e⟩ := h4.nf y hy h0
    exact ⟨z, hz, by rw [← hnm z (h4.rem.sub.subset hz)]; exact e⟩
  · show u1.sl = _
    rw [h7, hH, hP, hT]
/-- A block beside the nodes that was taken. -/
def NGT (w0 : World) (q : MH) (u0 : TM) (l : List Nat) (par refs : Nat → Nat) (B : Nat → List Nat) (x c : Nat) (fr : Gh) (W : World) : Prop :=
  ∃ S L u E B0, NI w0 q S L l u E B0 W ∧ Fx u S L x c ∧ (∀ y m, Lv 7 S y m → y = x ∨ y ∈ l) ∧ RtQ u0 u ∧ (∀ y ∈ l, (E y).name = par y ∧ (E y).refs = refs y ∧ B0 y = B y) ∧ u.sl = fr.T ∧ ∀ y, (E y).hash = fr.h y ∧ (E y).name = fr.p y
theorem NGT.np (h : NGT w0 q u0 l par refs B x c fr W) : NPT w0 q u0 l par refs B x c W := by
  obtain ⟨S, L, u, E, B0, g, ha, hr, r, hf, _⟩ := h
  exact ⟨S, L, u, E, B0, g, ha, hr, r, hf⟩
theorem NGT.fr0 (h : NGT w0 q u0 l par refs B x c fr W) (hf : Fr [] W W') : NGT w0 q u0 l par refs B x c fr W' := by
  obtain ⟨S, L, u, E, B0, h1, h2⟩ := h
  exact ⟨S, L, u, E, B0, h1.fr0 hf, h2⟩
theorem gp_take (h : NG w0 q u0 l par refs B fr W) (hc : 1 ≤ c ∧ c ≤ 9) :
    Calls Tryz.prog 56 #[.pointer (some ⟨q.m, 0, none⟩), .int .i64 c] W fun e w' => ∃ x r : Nat, e = .returned (.tuple #[.int .i64 x, .int .i64 r]) ∧ Fr q.blocks W w' ∧ ((r = 5 ∧ ∃ fr1 : Gh, fr1.n = 0 ∧ NG w0 q u0 l par refs B fr1 w') ∨ (r = 0 ∧ NGT w0 q u0 l par refs B x c fr w')) := by
  obtain ⟨S, L, u, E, B0, g, ha, hrt, r, hf, hT, hh⟩ := h
  refine (wb_take g.wb c hc).mono fun e w' ⟨x, rr, he, f2, ht⟩ => ⟨x, rr, he, f2, ?_⟩
  rcases ht with ⟨hr, hx, hd0, v, hS, hw⟩ | ⟨hr, S', v, hS, hw, hfx, htk⟩
  · have hl0 : lst 7 S.inn 0 = [] := by
      cases hl : lst 7 S.inn 0 with
      | nil => rfl
      | cons a t => rw [hl] at hd0; cases hd0
    exact .inl ⟨hr, ⟨0, v.sl, fr.h, fr.p⟩, rfl, S, L, v, E, B0, g.re hw (fun y => ⟨rfl, rfl, rfl⟩) hS.sl (hS.rt 17 (.inr (by decide))), ha, hrt.trans (RtQ.sla hS), r, by rw [hl0]; rfl, rfl, hh⟩
  · exact .inr ⟨hr, S', L, v, E, B0, g.re hw (fun y => ⟨rfl, rfl, rfl⟩) hS.sl (hS.rt 17 (.inr (by decide))), hfx, fun y m hy => (htk.all y m hy).imp id (ha y m), hrt.trans (RtQ.sla hS), r, hS.sl.trans hT, hh⟩
/-- What a new node does to the slots. -/
structure MakeG (fr : Gh) (x p : Nat) (fr1 : Gh) : Prop where
  tt : delT fr1.H fr1.T x = fr.T
  hh : ∀ y, y ≠ x → fr1.h y = fr.h y
  pp : ∀ y, y ≠ x → fr1.p y = fr.p y
  px : fr1.p x = p
theorem gp_make (h : NGT w0 q u0 l par refs B x (clsN (16 + b.length)) fr W) (hp : p = 0 ∨ p ∈ l) (hb : ∀ k ∈ b, k < 256) (hk : labOk b = true) (hno : fndP l par B p (b.map lowB) = none) (hrf : p ≠ 0 → refs p + 1 < 4294967296) :
    Calls Tryz.prog 57 #[.pointer (some ⟨q.m, 0, none⟩), .int .i64 x, .int .i64 p, .string (strOf b)] W fun e w' => e = .returned (.int .i64 0) ∧ Fr q.blocks W w' ∧ ∃ fr1, NG w0 q u0 (l ++ [x]) (up par x p) (refN refs x p) (up B x (b.map lowB)) fr1 w' ∧ MakeG fr x p fr1 := by
  obtain ⟨S', L, v, E, B0, gi, hfx, ha, hrt, r, hT, hh⟩ := h
  have hfn : fndN l E B0 p (b.map lowB) = none := by rw [fndN_P r]; exact hno
  refine (nmake_yesS gi hfx hp hb hk hfn (fun hp0 => by rw [(r p (hp.resolve_left hp0)).2.1]; exact hrf hp0)).mono fun e w' ⟨h1, h2, v', E', B', h3, h4, h5, h6⟩ => ⟨h1, h2, ?_⟩
  have hxl : x ∉ l := fun hm => hfx.no ((gi.mem x).1 hm).1
  refine ⟨⟨_, v'.sl, fun y => (E' y).hash, fun y => (E' y).name⟩, ⟨S', _, v', E', B', h3, fun y m hy => ?_, hrt.trans h5, fun y hy => ?_, rfl, rfl, fun y => ⟨rfl, rfl⟩⟩, ?_, fun y hy => (h4.ee y hy).2.2.trans (hh y).1, fun y hy => (h4.ee y hy).2.1.trans (hh y).2, h4.nm⟩
  · rcases ha y m hy with k | k
    · exact List.mem_append_right _ (List.mem_singleton.2 k)
    · exact List.mem_append_left _ k
  · rw [List.mem_append, List.mem_singleton] at hy
    by_cases e : y = x
    · subst e
      rw [h4.nm, h4.rf, h4.bx, up_same, up_same]
      refine ⟨rfl, ?_, rfl⟩
      unfold refN
      rw [if_pos rfl]
    · have hy' := hy.resolve_right e
      rw [(h4.ee y e).2.1, h4.rr y e (gi.lt hy').1, h4.bb y e, up_ne _ _ e, up_ne _ _ e]
      refine ⟨(r y hy').1, ?_, (r y hy').2.2⟩
      unfold refN
      rw [if_neg e, (r y hy').2.1]
  · have hH : Gh.H ⟨(lst 7 S'.inn 0).length, v'.sl, fun y => (E' y).hash, fun y => (E' y).name⟩ = hmE v' E' := funext fun y => by unfold hmE Gh.H; rw [h3.wb.s]
    rw [hH, ← hT]
    exact h6
end
end Go.Proofs.YtellbfamofilaaaGreatDoor

/- Chains with the index's slots. (Printed by gen_cs.py.) -/
namespace Go.Proofs.YtellbfamofilaaaGreatDoor
set_option linter.unusedVariables false
set_option linter.unusedSimpArgs false
open Go.RowKit

section
variable {w0 w W W' : World} {q : MH} {u0 : TM} {l : List Nat} {par refs own : Nat → Nat} {B : Nat → List Nat} {nm : Nat → List (List Nat)} {fr : Gh} {x p a c : Nat} {b : List Nat}
/-- A world of chains, with the slots. -/
def CG (w0 : World) (q : MH) (u0 : TM) (l : List Nat) (par own : Nat → Nat) (nm : Nat → List (List Nat)) (fr : Gh) (W : World) : Prop :=
  ∃ refs B, NG w0 q u0 l par refs B fr W ∧ NmOk l par B nm ∧ (∀ y ∈ l, refs y = own y + bel par l y) ∧ Firm own par l ∧ (∀ y, y ∉ l → own y = 0)
theorem CG.cp (h : CG w0 q u0 l par own nm fr W) : CP w0 q u0 l par own nm fr.n W := by
  obtain ⟨refs, B, h1, h2⟩ := h
  exact ⟨refs, B, h1.np, h2⟩
theorem CP.cg {n : Nat} (h : CP w0 q u0 l par own nm n W) : ∃ fr : Gh, fr.n = n ∧ CG w0 q u0 l par own nm fr W := by
  obtain ⟨refs, B, h1, h2⟩ := h
  obtain ⟨fr, e, h3⟩ := h1.ng
  exact ⟨fr, e, refs, B, h3, h2⟩
theorem CG.sub (h : CG w0 q u0 l par own nm fr W) : SubT fr.T l := by
  obtain ⟨refs, B, h1, h2⟩ := h
  exact h1.sub
theorem CG.fr0 (h : CG w0 q u0 l par own nm fr W) (hf : Fr [] W W') : CG w0 q u0 l par own nm fr W' := by
  obtain ⟨refs, B, h1, h2⟩ := h
  exact ⟨refs, B, h1.fr0 hf, h2⟩
theorem cg_find (h : CG w0 q u0 l par own nm fr W) (ha : a = 0 ∨ a ∈ l) (hb : ∀ k ∈ b, k < 256) :
    Calls Tryz.prog 21 #[.pointer (some ⟨q.m, 0, none⟩), .int .i64 a, .string (strOf b)] W fun e w' => CG w0 q u0 l par own nm fr w' ∧ Fr q.blocks W w' ∧ ((∃ x : Nat, e = .returned (.tuple #[.int .i64 x, .bool true]) ∧ x ∈ l ∧ labOk b = true ∧ nm x = b.map lowB :: nm a) ∨ (e = .returned (.tuple #[.int .i64 0, .bool false]) ∧ ∀ x ∈ l, nm x ≠ b.map lowB :: nm a)) := by
  obtain ⟨refs, B, h1, h2, h3⟩ := h
  refine (gp_find h1 ha hb).mono fun e w' ⟨he, g1, g2⟩ => ⟨⟨refs, B, g1, h2, h3⟩, g2, ?_⟩
  by_cases hk : labOk b = true
  · rw [if_pos hk] at he
    cases hf : fndP l par B a (b.map lowB) with
    | some x =>
      rw [hf] at he
      have hm := List.mem_of_find?_eq_some hf
      have hp := List.find?_some hf
      simp at hp
      exact .inl ⟨x, he, hm, hk, by rw [h2.s x hm, hp.1, hp.2]⟩
    | none =>
      rw [hf] at he
      refine .inr ⟨he, fun x hx e => ?_⟩
      rw [h2.s x hx] at e
      injection e with e1 e2
      have := nm_inj h1.np h2 _ (Nat.le_refl _) (h1.np.up hx) ha e2
      have hn := (List.find?_eq_none.1 hf) x hx
      simp at hn
      exact hn this e1
  · rw [if_neg hk] at he
    refine .inr ⟨he, fun x hx e => ?_⟩
    rw [h2.s x hx] at e
    injection e with e1 e2
    have := (h1.np.lab hx).1
    rw [e1, labOk_low] at this
    exact hk this
theorem cg_hold (h : CG w0 q u0 l par own nm fr W) (hx : x ∈ l) (ho : own x ≤ 4000000000) :
    Calls Tryz.prog 13 #[.pointer (some ⟨q.m, 0, none⟩), .int .i64 x] W fun e w' => e = .returned (.int .i64 0) ∧ CG w0 q u0 l par (_root_.Go.Proofs.YtellbfamofilaaaGreatDoor.up own x (own x + 1)) nm fr w' ∧ Fr q.blocks W w' := by
  obtain ⟨refs, B, h1, h2, h3, h4, h5⟩ := h
  have hr := h3 x hx
  have hb := bel_le par l x
  have hf := h1.np.few
  refine (gp_hold h1 hx (by omega)).mono fun e w' ⟨he, g1, g2⟩ => ⟨he, ⟨_, B, g1, h2, fun y hy => ?_, fun y hy h0 => ?_, fun y hy => ?_⟩, g2⟩
  · by_cases e : y = x
    · rw [e, up_same, up_same]; omega
    · rw [up_ne _ _ e, up_ne _ _ e]; exact h3 y hy
  · by_cases e : y = x
    · rw [e, up_same] at h0; omega
    · rw [up_ne _ _ e] at h0; exact h4 y hy h0
  · rw [up_ne _ _ (fun e => hy (by rw [e]; exact hx))]; exact h5 y hy
theorem cg_let (h : CG w0 q u0 l par own nm fr W) (hx : x ∈ l) (k : Nat) (ho : own x = k + 1) :
    Calls Tryz.prog 14 #[.pointer (some ⟨q.m, 0, none⟩), .int .i64 x] W fun e w' => ∃ n l1 fr1, e = .returned (.tuple #[.int .i64 (n : Nat), .int .i64 0]) ∧ Fr q.blocks W w' ∧ CG w0 q u0 l1 par (_root_.Go.Proofs.YtellbfamofilaaaGreatDoor.up own x k) nm fr1 w' ∧ Rem (_root_.Go.Proofs.YtellbfamofilaaaGreatDoor.up own x k) par l l1 ∧ n + l1.length = l.length ∧ LetG fr x n fr1 := by
  obtain ⟨refs, B, h1, h2, h3, h4, h5⟩ := h
  refine (gp_let (own := _root_.Go.Proofs.YtellbfamofilaaaGreatDoor.up own x k) h1 hx (fun y hy => ?_) (fun y hy hne h0 => ?_)).mono fun e w' ⟨n, l1, refs1, fr1, g1, g2, g3, g4, g5, g6, g7, g8⟩ => ⟨n, l1, fr1, g1, g2, ⟨refs1, B, g3, ⟨h2.z, fun y hy => h2.s y (g4.sub.subset hy)⟩, g6, g7, fun y hy => ?_⟩, g4, g5, g8⟩
  · by_cases e : y = x
    · subst e
      rw [up_same, if_pos rfl, h3 y hy, ho]; omega
    · rw [up_ne _ _ e, if_neg e, h3 y hy]; omega
  · rw [up_ne _ _ hne] at h0
    exact h4 y hy h0
  · by_cases hl : y ∈ l
    · exact g4.gone y hl hy
    · rw [up_ne _ _ (fun e => hl (by rw [e]; exact hx))]; exact h5 y hl
theorem cg_count (h : CG w0 q u0 l par own nm fr W) : Calls Tryz.prog 18 #[.pointer (some ⟨q.m, 0, none⟩)] W fun e w' => e = .returned (.int .i64 l.length) ∧ CG w0 q u0 l par own nm fr w' ∧ Fr q.blocks W w' := by
  obtain ⟨refs, B, h1, h2⟩ := h
  exact (gp_count h1).mono fun e w' ⟨he, g1, g2⟩ => ⟨he, ⟨refs, B, g1, h2⟩, g2⟩
theorem cg_flt (h : CG w0 q u0 l par own nm fr W) : Calls Tryz.prog 19 #[.pointer (some ⟨q.m, 0, none⟩)] W fun e w' => e = .returned (.int .i64 0) ∧ (∃ n, CP w0 q u0 l par own nm n w') ∧ Fr q.blocks W w' :=
  (c_flt h.cp).mono fun e w' ⟨h1, h2, h3⟩ => ⟨h1, ⟨_, h2⟩, h3⟩
/-- Chains, and a block beside them that was taken. -/
def CGT (w0 : World) (q : MH) (u0 : TM) (l : List Nat) (par own : Nat → Nat) (nm : Nat → List (List Nat)) (x c : Nat) (fr : Gh) (W : World) : Prop :=
  ∃ refs B, NGT w0 q u0 l par refs B x c fr W ∧ NmOk l par B nm ∧ (∀ y ∈ l, refs y = own y + bel par l y) ∧ Firm own par l ∧ (∀ y, y ∉ l → own y = 0)
theorem CGT.fr0 (h : CGT w0 q u0 l par own nm x c fr W) (hf : Fr [] W W') : CGT w0 q u0 l par own nm x c fr W' := by
  obtain ⟨refs, B, h1, h2⟩ := h
  exact ⟨refs, B, h1.fr0 hf, h2⟩
theorem cg_take (h : CG w0 q u0 l par own nm fr W) (hc : 1 ≤ c ∧ c ≤ 9) :
    Calls Tryz.prog 56 #[.pointer (some ⟨q.m, 0, none⟩), .int .i64 c] W fun e w' => ∃ x r : Nat, e = .returned (.tuple #[.int .i64 x, .int .i64 r]) ∧ Fr q.blocks W w' ∧ ((r = 5 ∧ ∃ fr1 : Gh, fr1.n = 0 ∧ CG w0 q u0 l par own nm fr1 w') ∨ (r = 0 ∧ CGT w0 q u0 l par own nm x c fr w')) := by
  obtain ⟨refs, B, h1, h2⟩ := h
  refine (gp_take h1 hc).mono fun e w' ⟨x, r, he, f, hh⟩ => ⟨x, r, he, f, ?_⟩
  rcases hh with ⟨k1, f1, k0, k2⟩ | ⟨k1, k2⟩
  · exact .inl ⟨k1, f1, k0, refs, B, k2, h2⟩
  · exact .inr ⟨k1, refs, B, k2, h2⟩
/-- Behind Make: the new node is held by none yet. -/
def CGM (w0 : World) (q : MH) (u0 : TM) (l : List Nat) (par own : Nat → Nat) (nm : Nat → List (List Nat)) (p x : Nat) (fr : Gh) (W : World) : Prop :=
  ∃ refs B, NG w0 q u0 (l ++ [x]) par refs B fr W ∧ x ∉ l ∧ par x = p ∧ NmOk (l ++ [x]) par B nm ∧ (∀ y ∈ l ++ [x], refs y = own y + bel par (l ++ [x]) y) ∧ Firm own par l ∧ (∀ y, y ∉ l → own y = 0) ∧ ∀ y ∈ l ++ [x], par y ≠ x
theorem CGM.fr0 (h : CGM w0 q u0 l par own nm p x fr W) (hf : Fr [] W W') : CGM w0 q u0 l par own nm p x fr W' := by
  obtain ⟨refs, B, h1, h2⟩ := h
  exact ⟨refs, B, h1.fr0 hf, h2⟩
theorem cgm_of {refs : Nat → Nat} {s : List Nat} (hn : NG w0 q u0 (l ++ [x]) (up par x p) (refN refs x p) (up B x s) fr W) (hxl : x ∉ l) (hx0 : x ≠ 0) (hp : p = 0 ∨ p ∈ l) (hpn : ∀ y ∈ l, par y = 0 ∨ par y ∈ l)
    (h2 : NmOk l par B nm) (h3 : ∀ y ∈ l, refs y = own y + bel par l y) (h4 : Firm own par l) (h5 : ∀ y, y ∉ l → own y = 0) : CGM w0 q u0 l (up par x p) own (up nm x (s :: nm p)) p x fr W := by
  have hpx : p ≠ x := fun e => by
    rcases hp with k | k
    · exact hx0 (e.symm.trans k)
    · exact hxl (e ▸ k)
  have hpy : ∀ y ∈ l, par y ≠ x := fun y hy e => by
    rcases hpn y hy with k | k
    · exact hx0 (e.symm.trans k)
    · exact hxl (e ▸ k)
  refine ⟨_, _, hn, hxl, up_same _ _ _, ⟨?_, fun y hy => ?_⟩, fun y hy => ?_, fun y hy h0 => ?_, h5, fun y hy => ?_⟩
  · rw [up_ne _ _ (Ne.symm hx0)]; exact h2.z
  · rcases List.mem_append.1 hy with k | k
    · have e : y ≠ x := fun e => hxl (e ▸ k)
      rw [up_ne _ _ e, up_ne _ _ e, up_ne _ _ e, up_ne _ _ (hpy y k)]
      exact h2.s y k
    · rw [List.mem_singleton] at k
      subst k
      rw [up_same, up_same, up_same, up_ne _ _ hpx]
  · have hb0 : bel (up par x p) (l ++ [x]) y = bel par l y + (if p = y then 1 else 0) := by
      rw [bel_snoc, up_same, bel_congr (fun z hz => up_ne _ _ (fun e => hxl (by rw [← e]; exact hz)))]
    rw [hb0]
    unfold refN
    by_cases e : y = x
    · subst e
      rw [if_pos rfl, if_neg hpx, h5 y hxl]
      have : bel par l y = 0 := by
        by_cases h0 : bel par l y = 0
        · exact h0
        · obtain ⟨z, hz, e⟩ := bel_pos.1 h0
          exact absurd e (hpy z hz)
      omega
    · rw [if_neg e]
      rcases List.mem_append.1 hy with k | k
      · rw [h3 y k]
        by_cases ep : y = p
        · rw [if_pos ep, if_pos ep.symm]; omega
        · rw [if_neg ep, if_neg (fun k => ep k.symm)]; omega
      · exact absurd (List.mem_singleton.1 k) e
  · obtain ⟨z, hz, e⟩ := h4 y hy h0
    exact ⟨z, hz, by rw [up_ne _ _ (fun k => hxl (by rw [← k]; exact hz))]; exact e⟩
  · rcases List.mem_append.1 hy with k | k
    · rw [up_ne _ _ (fun e => hxl (by rw [← e]; exact k))]; exact hpy y k
    · rw [List.mem_singleton] at k
      subst k
      rw [up_same]; exact hpx
theorem cg_make (h : CGT w0 q u0 l par own nm x (clsN (16 + b.length)) fr W) (hp : p = 0 ∨ p ∈ l) (hb : ∀ k ∈ b, k < 256) (hk : labOk b = true) (hno : ∀ y ∈ l, nm y ≠ b.map lowB :: nm p) (ho : p ≠ 0 → own p ≤ 4000000000) (hf : l.length ≤ 224) :
    Calls Tryz.prog 57 #[.pointer (some ⟨q.m, 0, none⟩), .int .i64 x, .int .i64 p, .string (strOf b)] W fun e w' => e = .returned (.int .i64 0) ∧ Fr q.blocks W w' ∧ ∃ fr1, CGM w0 q u0 l (up par x p) own (up nm x (b.map lowB :: nm p)) p x fr1 w' ∧ MakeG fr x p fr1 := by
  obtain ⟨refs, B, h1, h2, h3, h4, h5⟩ := h
  obtain ⟨hxl, hx0, _⟩ := h1.np.ne
  have hpn : ∀ y ∈ l, par y = 0 ∨ par y ∈ l := by
    obtain ⟨S', L, v, E, B0, gi, hfx, ha, hrt, r, _⟩ := h1
    intro y hy
    rw [← (r y hy).1]
    exact gi.up y hy
  have hno' : fndP l par B p (b.map lowB) = none := by
    unfold fndP
    rw [List.find?_eq_none]
    intro y hy e
    simp at e
    exact hno y hy (by rw [h2.s y hy, e.1, e.2])
  refine (gp_make h1 hp hb hk hno' (fun h0 => by
    have := h3 p (hp.resolve_left h0)
    have := bel_le par l p
    have := ho h0
    omega)).mono fun e w' ⟨he, f, fr1, g, gm⟩ => ⟨he, f, fr1, cgm_of g hxl hx0 hp hpn h2 h3 h4 h5, gm⟩
theorem cg_held (h : CGM w0 q u0 l par own nm p x fr W) :
    Calls Tryz.prog 13 #[.pointer (some ⟨q.m, 0, none⟩), .int .i64 x] W fun e w' => e = .returned (.int .i64 0) ∧ Fr q.blocks W w' ∧ CG w0 q u0 (l ++ [x]) par (up own x 1) nm fr w' := by
  obtain ⟨refs, B, h1, hx, hpx, h2, h3, h4, h5, h6⟩ := h
  have hxm : x ∈ l ++ [x] := List.mem_append_right _ (List.mem_singleton.2 rfl)
  have hox := h5 x hx
  have hbx : bel par (l ++ [x]) x = 0 := by
    by_cases h0 : bel par (l ++ [x]) x = 0
    · exact h0
    · obtain ⟨z, hz, e⟩ := bel_pos.1 h0
      exact absurd e (h6 z hz)
  have hr := h3 x hxm
  refine (gp_hold h1 hxm (by omega)).mono fun e w' ⟨he, g1, g2⟩ => ⟨he, g2, _, B, g1, h2, fun y hy => ?_, fun y hy h0 => ?_, fun y hy => ?_⟩
  · by_cases e : y = x
    · subst e; rw [up_same, up_same]; omega
    · rw [up_ne _ _ e, up_ne _ _ e]; exact h3 y hy
  · by_cases e : y = x
    · subst e; rw [up_same] at h0; omega
    · rw [up_ne _ _ e] at h0
      rcases List.mem_append.1 hy with k | k
      · obtain ⟨z, hz, e⟩ := h4 y k h0
        exact ⟨z, List.mem_append_left _ hz, e⟩
      · exact absurd (List.mem_singleton.1 k) e
  · rw [up_ne _ _ (fun e => hy (by rw [e]; exact hxm))]
    exact h5 y (fun k => hy (List.mem_append_left _ k))
theorem cg_lets (h : CG w0 q u0 l par own nm fr W) (hx : x ∈ l) (k : Nat) (ho : own x = k + 1) (hz : ∃ z ∈ l, par z = x) :
    Calls Tryz.prog 14 #[.pointer (some ⟨q.m, 0, none⟩), .int .i64 x] W fun e w' => e = .returned (.tuple #[.int .i64 0, .int .i64 0]) ∧ Fr q.blocks W w' ∧ ∃ fr1, CG w0 q u0 l par (up own x k) nm fr1 w' ∧ fr1.T = fr.T ∧ fr1.h = fr.h ∧ fr1.p = fr.p := by
  refine (cg_let h hx k ho).mono fun e w' ⟨n, l1, fr1, g1, g2, g3, g4, g5, g6⟩ => ?_
  have hl : l1 = l := g4.uniq (.refl l) g3.cp.firm (fun y hy h0 => by
    by_cases e : y = x
    · rw [e]; exact hz
    · rw [up_ne _ _ e] at h0
      exact h.cp.firm y hy h0) h.cp.nd
  subst hl
  have hn : n = 0 := by omega
  subst hn
  exact ⟨g1, g2, fr1, g3, g6.2.2, g6.1, g6.2.1⟩
end
end Go.Proofs.YtellbfamofilaaaGreatDoor

/- Package chain, with the index's slots: Known, Pin, Drop, Grow. (Printed by gen_cs.py.) -/
namespace Go.Proofs.YtellbfamofilaaaGreatDoor
set_option linter.unusedVariables false
set_option linter.unusedSimpArgs false
open Go.RowKit

section
variable {w0 w W W' : World} {q : MH} {u0 : TM} {l : List Nat} {par refs own : Nat → Nat} {B : Nat → List Nat} {nm : Nat → List (List Nat)} {fr : Gh} {x p a c : Nat} {b : List Nat}
set_option maxRecDepth 1000000 in
set_option maxHeartbeats 4000000 in
theorem cgknown (h : CG w0 q u0 l par own nm fr w) (ad : Option Addr) (cap : Nat) (L : List (List Nat)) (hA : StrA w ad L) (hAq : 0 < L.length → ∀ g o, ad = some ⟨g, o, none⟩ → g ∉ q.blocks) :
    Calls Tryz.prog 40 #[.pointer (some ⟨q.m, 0, none⟩), .slice ad L.length cap] w fun e w' => ∃ at_ k : Nat, e = .returned (.tuple #[.int .i64 at_, .int .i64 k]) ∧ Kn l nm (lowN L) at_ k ∧ CG w0 q u0 l par own nm fr w' ∧ Fr q.blocks w w' := by
  have HFi := Lib.hid (fun W (hW : CG w0 q u0 l par own nm fr W) (a : Nat) (ha : a = 0 ∨ a ∈ l) (b : List Nat) (hb : ∀ k ∈ b, k < 256) => cg_find hW ha hb)
  have HQ := Lib.hid (fun g (hg : g < w.heap.size) (hn : g ∉ q.blocks) W (hW : Fr q.blocks w W) o v (hc : w.cell? ⟨g, o, none⟩ = some v) => (show W.cell? ⟨g, o, none⟩ = some v from (hW.cell (p := ⟨g, o, none⟩) hg hn).trans hc))
  have HA := Lib.hid hA
  have H0 := Lib.hid h
  have HZ := Lib.hid h.cp.z
  have hle := hA.len
  obtain ⟨n, hn⟩ : ∃ n, L.length = n := ⟨_, rfl⟩
  have HN := Lib.hid hn
  rw [hn] at hle ⊢
  have HAq := Lib.hid hAq
  clear h hA hAq hn
  go_enter Tryz.func40, Tryz.ntmps40
  go_wp2_with fail
  refine wp_scope_jumps 0 (fun a' w' => ∃ (at_ k : Nat) (u2 u3 u8 u9 u10 u11 u12 u13 u14 u15 u16 u17 u18 u19 u20 u21 u22 u23 u24 u25 u26 u27 u28 u29 u30 u31 u32 u33 u34 u35 u36 : Value), a' = { tmps := #[.pointer (some ⟨q.m, 0, none⟩), .slice ad n cap, u2, u3, .int .i64 0, .int .i64 0, .int .i64 at_, .int .i64 k, u8, u9, u10, u11, u12, u13, u14, u15, u16, u17, u18, u19, u20, u21, u22, u23, u24, u25, u26, u27, u28, u29, u30, u31, u32, u33, u34, u35, u36], defers := [] } ∧ k ≤ n ∧ Hid (at_ = 0 ∨ at_ ∈ l) ∧ Hid (nm at_ = sfx (lowN L) k) ∧ Hid (CG w0 q u0 l par own nm fr w') ∧ Hid (Fr q.blocks w w')) (fun a' _ => n - (intOf (a'.tmps.getD 7 undef)).toNat) rfl ?_ ?_
  · have HE := Lib.hid (show nm 0 = sfx (lowN L) 0 from by rw [HZ.out, sfx_zero])
    have HC := H0
    have HF := Lib.hid (Fr.refl q.blocks w)
    go_wp2_with fail
    go_step3
    by_cases hlt : 0 < n
    · have hL : n - 1 - 0 < L.length := by rw [HN.out]; omega
      obtain ⟨g, o, rfl, hc, hg⟩ := HA.out.at_ (n - 1 - 0) hL
      have hgd : L[n - 1 - 0]? = some (L[n - 1 - 0]'hL) := List.getElem?_eq_getElem hL
      rw [hgd] at hc
      simp only [Option.getD_some] at hc
      have hs := HA.out.lt _ (List.getElem_mem hL)
      have HSX := Lib.hid (show sfx (lowN L) (0 + 1) = (L[n - 1 - 0]'hL).map lowB :: sfx (lowN L) 0 from by
        rw [sfx_succ (by rw [lowN_len, HN.out]; exact hlt)]
        congr 1
        simp only [lowN, List.getElem_map, List.length_map, HN.out])
      have hcW := HQ.out g hg (HAq.out (by omega) g o rfl) w HF.out _ _ hc
      generalize L[n - 1 - 0]'hL = s at *
      have HFi' := Lib.hid (show Calls Tryz.prog 21 #[.pointer (some ⟨q.m, 0, none⟩), .int .i64 0, .string (strOf s)] w _ from HFi.out _ HC.out 0 (.inl rfl) s hs)
      have HLE := Lib.hid (show 0 + 1 ≤ (lowN L).length from by rw [lowN_len, HN.out]; exact hlt)
      have w1 : IntKind.i64.wrap ((n : Int) - 1) = ((n : Int) - 1) := IntWalk.i64_in _ (by omega)
      have w2 : IntKind.i64.wrap ((n : Int) - 1 - (0 : Int)) = ((n - 1 - 0 : Nat) : Int) := by rw [IntWalk.i64_in _ (by omega)]; (try omega)
      have w3 : IntKind.i64.wrap ((0 : Int) + 1) = ((0 + 1 : Nat) : Int) := by rw [IntWalk.i64_in _ (by omega)]; rfl
      have b1 : ((0 : Int) == (n : Int)) = false := by rw [beq_eq_false_iff_ne]; omega
      have b1' : (0 == n) = false := by rw [beq_eq_false_iff_ne]; omega
      have i0 : (0 : Int) ≤ (n : Int) - 1 := by omega
      have i1 : (n : Int) - 1 < n := by omega
      rw [Nat.sub_zero] at hcW
      generalize strOf s = S at *
      clear hc hgd hs hL
      go_wp2_with fail
      with_reducible refine HFi'.out.mono ?_
      rintro e w5 ⟨h5, f5, ⟨x, rfl, hx, -, hnx⟩ | ⟨rfl, hno⟩⟩
      · have H5 := Lib.hid h5
        have F5 := Lib.hid (HF.out.trans f5)
        have HX := Lib.hid (show x = 0 ∨ x ∈ l from .inr hx)
        have HNX := Lib.hid (show nm x = sfx (lowN L) (0 + 1) from by rw [HSX.out, ← HE.out]; exact hnx)
        clear h5 f5 hx hnx
        go_wp2_with fail
        go_step3
        exact ⟨rfl, x, 0 + 1, _, _, _, _, _, _, _, _, _, _, _, _, _, _, _, _, _, _, _, _, _, _, _, _, _, _, _, _, _, _, _, by first | rfl | (congr 1; go_num), by omega, HX, HNX, H5, F5⟩
      · have HK := Lib.hid (show Kn l nm (lowN L) 0 0 from ⟨Nat.le_trans (Nat.le_succ _) HLE.out, (Or.inl rfl), HE.out, fun _ x hx e => hno x hx (by rw [e, HSX.out, HE.out])⟩)
        have H5 := Lib.hid h5
        have F5 := Lib.hid (HF.out.trans f5)
        clear h5 f5 hno
        go_wp2_with fail
        try simp only [Exit.jump]
        go_ret2
        exact ⟨0, 0, rfl, HK.out, H5.out, F5.out⟩
    · obtain rfl : 0 = n := by omega
      have b1 : ((0 : Int) == (0 : Int)) = true := by simp
      have HK := Lib.hid (show Kn l nm (lowN L) 0 0 from ⟨by rw [lowN_len, HN.out]; exact Nat.le_refl _, (Or.inl rfl), HE.out, fun hlt => by rw [lowN_len, HN.out] at hlt; omega⟩)
      go_wp2_with fail
      try simp only [Exit.jump]
      go_ret2
      exact ⟨0, 0, rfl, HK.out, HC.out, HF.out⟩

  · rintro a' w' ⟨at_, k, u2, u3, u8, u9, u10, u11, u12, u13, u14, u15, u16, u17, u18, u19, u20, u21, u22, u23, u24, u25, u26, u27, u28, u29, u30, u31, u32, u33, u34, u35, u36, rfl, hk, HP, HE, HC, HF⟩
    by_cases hlt : k < n
    · have hL : n - 1 - k < L.length := by rw [HN.out]; omega
      obtain ⟨g, o, rfl, hc, hg⟩ := HA.out.at_ (n - 1 - k) hL
      have hgd : L[n - 1 - k]? = some (L[n - 1 - k]'hL) := List.getElem?_eq_getElem hL
      rw [hgd] at hc
      simp only [Option.getD_some] at hc
      have hs := HA.out.lt _ (List.getElem_mem hL)
      have HSX := Lib.hid (show sfx (lowN L) (k + 1) = (L[n - 1 - k]'hL).map lowB :: sfx (lowN L) k from by
        rw [sfx_succ (by rw [lowN_len, HN.out]; exact hlt)]
        congr 1
        simp only [lowN, List.getElem_map, List.length_map, HN.out])
      have hcW := HQ.out g hg (HAq.out (by omega) g o rfl) w' HF.out _ _ hc
      generalize L[n - 1 - k]'hL = s at *
      have HFi' := Lib.hid (HFi.out _ HC.out at_ HP.out s hs)
      have HLE := Lib.hid (show k + 1 ≤ (lowN L).length from by rw [lowN_len, HN.out]; exact hlt)
      have w1 : IntKind.i64.wrap ((n : Int) - 1) = ((n : Int) - 1) := IntWalk.i64_in _ (by omega)
      have w2 : IntKind.i64.wrap ((n : Int) - 1 - (k : Int)) = ((n - 1 - k : Nat) : Int) := by rw [IntWalk.i64_in _ (by omega)]; (try omega)
      have w3 : IntKind.i64.wrap ((k : Int) + 1) = ((k + 1 : Nat) : Int) := by rw [IntWalk.i64_in _ (by omega)]; push_cast; rfl
      have b1 : ((k : Int) == (n : Int)) = false := by rw [beq_eq_false_iff_ne]; omega
      have b1' : (k == n) = false := by rw [beq_eq_false_iff_ne]; omega
      have i0 : (0 : Int) ≤ ((n - 1 - k : Nat) : Int) := by omega
      have i1 : ((n - 1 - k : Nat) : Int) < n := by omega
      generalize strOf s = S at *
      generalize n - 1 - k = ix at *
      clear hc hgd hs hL
      go_wp2_with fail
      with_reducible refine HFi'.out.mono ?_
      rintro e w5 ⟨h5, f5, ⟨x, rfl, hx, -, hnx⟩ | ⟨rfl, hno⟩⟩
      · have H5 := Lib.hid h5
        have F5 := Lib.hid (HF.out.trans f5)
        have HX := Lib.hid (show x = 0 ∨ x ∈ l from .inr hx)
        have HNX := Lib.hid (show nm x = sfx (lowN L) (k + 1) from by rw [HSX.out, ← HE.out]; exact hnx)
        clear h5 f5 hx hnx
        go_wp2_with fail
        go_step3
        exact ⟨rfl, ⟨x, k + 1, _, _, _, _, _, _, _, _, _, _, _, _, _, _, _, _, _, _, _, _, _, _, _, _, _, _, _, _, _, _, _, by first | rfl | (congr 1; go_num), by omega, HX, HNX, H5, F5⟩, by simp [intOf]; omega⟩
      · have HK := Lib.hid (show Kn l nm (lowN L) at_ k from ⟨Nat.le_trans (Nat.le_succ _) HLE.out, HP.out, HE.out, fun _ x hx e => hno x hx (by rw [e, HSX.out, HE.out])⟩)
        have H5 := Lib.hid h5
        have F5 := Lib.hid (HF.out.trans f5)
        clear h5 f5 hno
        go_wp2_with fail
        try simp only [Exit.jump]
        go_ret2
        exact ⟨at_, k, rfl, HK.out, H5.out, F5.out⟩
    · obtain rfl : k = n := by omega
      have b1 : ((k : Int) == (k : Int)) = true := by simp
      have HK := Lib.hid (show Kn l nm (lowN L) at_ k from ⟨by rw [lowN_len, HN.out]; exact Nat.le_refl _, HP.out, HE.out, fun hlt => by rw [lowN_len, HN.out] at hlt; omega⟩)
      go_wp2_with fail
      try simp only [Exit.jump]
      go_ret2
      exact ⟨at_, k, rfl, HK.out, HC.out, HF.out⟩

/-- What Pin answers. -/
def PinG (w0 : World) (q : MH) (u0 : TM) (l : List Nat) (par own : Nat → Nat) (nm : Nat → List (List Nat)) (fr : Gh) (ck : Nat) (N : List (List Nat)) (e : Ending) (w' : World) : Prop :=
  (ck ≠ 0 ∧ e = .returned (.tuple #[.int .i64 0, .int .i64 0, .int .i64 ck]) ∧ CG w0 q u0 l par own nm fr w') ∨ (ck = 0 ∧ ∃ at_ k : Nat, e = .returned (.tuple #[.int .i64 at_, .int .i64 k, .int .i64 0]) ∧ Kn l nm N at_ k ∧ CG w0 q u0 l par (ownP own at_) nm fr w')
theorem cg_pin (h : CG w0 q u0 l par own nm fr w) (ad : Option Addr) (cap : Nat) (L : List (List Nat)) (hA : StrA w ad L) (hAq : 0 < L.length → ∀ g o, ad = some ⟨g, o, none⟩ → g ∉ q.blocks) (hb : wireN L ≤ 1099511627776) (ho : ∀ y, own y ≤ 4000000000) :
    Calls Tryz.prog 72 #[.pointer (some ⟨q.m, 0, none⟩), .slice ad L.length cap] w fun e w' => Fr q.blocks w w' ∧ PinG w0 q u0 l par own nm fr (chkN L) (lowN L) e w' := by
  have HC := (show ∃ a s : Nat, (7 ≤ a) ∧ Hid (Calls Tryz.prog 94 #[.pointer (some ⟨q.m, 0, none⟩)] w fun e w' => e = .returned (cfgV a s) ∧ Fr [] w w') from by
    obtain ⟨refs, B, ⟨S, LL, u, E, B0, g, _⟩, _⟩ := h
    have ha := g.wb.h.m.ok.cfg.a1
    exact ⟨u.a, u.s, ha, Lib.hid (tconfig g.wb.h.m)⟩)
  obtain ⟨a0, s0, ha0, HC⟩ := HC
  have hE := eq_cfg0 a0 s0 ha0
  have HCk := Lib.hid (fun W (hW : Fr [] w W) => ncheck W ad cap L (hA.fr hW) hb)
  have HKn := Lib.hid (fun W (hW : Fr [] w W) => cgknown (h.fr0 hW) ad cap L (hA.fr hW) hAq)
  have HU := Lib.hid (fun (at_ : Nat) W (hW : CG w0 q u0 l par own nm fr W) (ha : at_ = 0 ∨ at_ ∈ l) => (show Calls Tryz.prog 81 #[.agg #[.pointer (some ⟨q.m, 0, none⟩), .int .i64 at_], .func (.func 80) #[] #[]] W fun e w' => e = .returned (.tuple #[]) ∧ (CG w0 q u0 l par (ownP own at_) nm fr w' ∧ Fr q.blocks W w') from by
    by_cases h0 : at_ = 0
    · subst h0
      exact (cunless0 _).mono fun e w' ⟨he, hf⟩ => ⟨he, by unfold ownP; rw [if_pos rfl]; exact hW.fr0 hf, hf.nil⟩
    · refine cunless_hold h0 _ (fun W' hf => ?_)
      refine (cg_hold (hW.fr0 hf) (ha.resolve_left h0) (ho _)).mono fun e w' ⟨k1, k2, k3⟩ => ⟨k1, ?_, hf.nil.trans k3⟩
      unfold ownP
      rw [if_neg h0]
      exact k2))
  have H0 := Lib.hid h
  unfold cfgV at HC
  generalize L.length = n at *
  generalize hck : chkN L = ck at *
  clear h hA hAq hck ha0
  go_enter Tryz.func72, Tryz.ntmps72
  go_wp2_with fail
  with_reducible refine HC.out.mono ?_
  rintro e w1 ⟨rfl, f1⟩
  have F1 := Lib.hid f1
  clear f1 HC
  go_wp2_with fail
  with_reducible refine (HCk.out _ F1.out).mono ?_
  rintro e w2 ⟨rfl, f2⟩
  have F2 := Lib.hid (F1.out.trans f2)
  clear f2 HCk F1
  by_cases hc : ck = 0
  · subst hc
    go_wp2_with fail
    with_reducible refine (HKn.out _ F2.out).mono ?_
    rintro e w3 ⟨at_, k, rfl, h1, h2, h3⟩
    have HK := Lib.hid h1
    have F3 := Lib.hid (F2.out.nil.trans h3)
    have HU' := Lib.hid (HU.out at_ w3 h2 h1.pl)
    clear h1 h2 h3 HKn HU
    go_wp2_with fail
    with_reducible refine HU'.out.mono ?_
    rintro e w4 ⟨rfl, h4, f4⟩
    have H4 := Lib.hid h4
    have F4 := Lib.hid (F3.out.trans f4)
    clear h4 f4 HU'
    go_wp2_with fail
    go_returns
    exact ⟨F4.out, .inr ⟨rfl, at_, k, rfl, HK.out, H4.out⟩⟩
  · have b1 : ((ck : Int) != 0) = true := by simp; omega
    have b1' : (ck != 0) = true := by simp; omega
    have HCK := Lib.hid hc
    clear hc HKn HU
    go_wp2_with fail
    go_returns
    exact ⟨F2.out.nil, .inl ⟨HCK.out, rfl, H0.out.fr0 F2.out⟩⟩
theorem cg_drop (h : CG w0 q u0 l par own nm fr W) (hx : x ∈ l) (k : Nat) (ho : own x = k + 1) :
    Calls Tryz.prog 37 #[.pointer (some ⟨q.m, 0, none⟩), .int .i64 x] W fun e w' => ∃ n l1 fr1, e = .returned (.tuple #[.int .i64 (n : Nat), .int .i64 0]) ∧ Fr q.blocks W w' ∧ CG w0 q u0 l1 par (up own x k) nm fr1 w' ∧ Rem (up own x k) par l l1 ∧ n + l1.length = l.length ∧ LetG fr x n fr1 := by
  have HL := Lib.hid (cg_let h hx k ho)
  have hx0 := (h.cp.rng hx).1
  have bx : ((x : Int) == 0) = false := by simp; omega
  have bx' : (x == 0) = false := by simp; omega
  clear h hx ho hx0
  go_enter Tryz.func37, Tryz.ntmps37
  go_wp2_with fail
  with_reducible refine HL.out.mono ?_
  rintro e w1 ⟨n, l1, fr1, rfl, h1⟩
  have H1 := Lib.hid h1
  clear h1 HL
  go_wp2_with fail
  go_ret2
  exact ⟨n, l1, fr1, rfl, H1.out⟩
theorem cg_grow (h : CGT w0 q u0 l par own nm x (clsN (16 + b.length)) fr W) (hp : p = 0 ∨ (p ∈ l ∧ own p ≠ 0)) (hb : ∀ k ∈ b, k < 256) (hk : labOk b = true) (hno : ∀ y ∈ l, nm y ≠ b.map lowB :: nm p) (ho : p ≠ 0 → own p ≤ 4000000000) (hf : l.length ≤ 224) :
    Calls Tryz.prog 42 #[.pointer (some ⟨q.m, 0, none⟩), .int .i64 p, .int .i64 x, .string (strOf b)] W fun e w' => e = .returned (.int .i64 0) ∧ Fr q.blocks W w' ∧ x ∉ l ∧ x ≠ 0 ∧ p ≠ x ∧ ∃ fr1, CG w0 q u0 (l ++ [x]) (up par x p) (ownG own x p) (up nm x (b.map lowB :: nm p)) fr1 w' ∧ MakeG fr x p fr1 := by
  have hp' : p = 0 ∨ p ∈ l := hp.imp id And.left
  have HMk := Lib.hid (cg_make h hp' hb hk hno ho hf)
  have HNE := Lib.hid (show x ∉ l ∧ x ≠ 0 from by
    obtain ⟨refs, B, h1, _⟩ := h
    exact ⟨h1.np.ne.1, h1.np.ne.2.1⟩)
  have HPX := Lib.hid (show p ≠ x from fun e => by
    rcases hp' with k | k
    · exact HNE.out.2 (e.symm.trans k)
    · exact HNE.out.1 (e ▸ k))
  have HHo := Lib.hid (fun W fr1 (hW : CGM w0 q u0 l (up par x p) own (up nm x (b.map lowB :: nm p)) p x fr1 W) => (show Calls Tryz.prog 80 #[.agg #[.pointer (some ⟨q.m, 0, none⟩), .int .i64 x]] W fun e w' => e = .returned (.tuple #[]) ∧ (Fr q.blocks W w' ∧ CG w0 q u0 (l ++ [x]) (up par x p) (up own x 1) (up nm x (b.map lowB :: nm p)) fr1 w') from
    cend_hold _ (fun W' hf => (cg_held (hW.fr0 hf)).mono fun e w' ⟨k1, k2, k3⟩ => ⟨k1, hf.nil.trans k2, k3⟩)))
  have HLe := Lib.hid (fun W (fr : Gh) (hW : CG w0 q u0 (l ++ [x]) (up par x p) (up own x 1) (up nm x (b.map lowB :: nm p)) fr W) => (show Calls Tryz.prog 81 #[.agg #[.pointer (some ⟨q.m, 0, none⟩), .int .i64 p], .func (.func 82) #[] #[]] W fun e w' => e = .returned (.tuple #[]) ∧ (Fr q.blocks W w' ∧ ∃ fr1, CG w0 q u0 (l ++ [x]) (up par x p) (ownG own x p) (up nm x (b.map lowB :: nm p)) fr1 w' ∧ fr1.T = fr.T ∧ fr1.h = fr.h ∧ fr1.p = fr.p) from by
    unfold ownG
    by_cases h0 : p = 0
    · subst h0
      rw [if_pos rfl]
      exact (cunless0 _).mono fun e w' ⟨he, hf⟩ => ⟨he, hf.nil, fr, hW.fr0 hf, rfl, rfl, rfl⟩
    · rw [if_neg h0]
      obtain ⟨hpl, hop⟩ := hp.resolve_left h0
      refine cunless_let h0 _ (fun W' hf => ?_)
      refine (cg_lets (hW.fr0 hf) (List.mem_append_left _ hpl) (own p - 1) (by rw [up_ne _ _ HPX.out]; omega) ⟨x, List.mem_append_right _ (List.mem_singleton.2 rfl), up_same _ _ _⟩).mono fun e w' ⟨k1, k2, k3⟩ => ⟨⟨_, k1⟩, hf.nil.trans k2, k3⟩))
  generalize strOf b = s at *
  clear h hp hp' hb hk hno ho hf
  go_enter Tryz.func42, Tryz.ntmps42
  go_wp2_with fail
  with_reducible refine HMk.out.mono ?_
  rintro e w1 ⟨rfl, f1, fr1, h1, m1⟩
  have F1 := Lib.hid f1
  have M1 := Lib.hid m1
  have H1 := Lib.hid (HHo.out _ _ h1)
  clear f1 h1 m1 HMk HHo
  go_wp2_with fail
  with_reducible refine H1.out.mono ?_
  rintro e w2 ⟨rfl, f2, h2⟩
  have F2 := Lib.hid (F1.out.trans f2)
  have H2 := Lib.hid (HLe.out _ _ h2)
  clear f2 h2 F1 H1 HLe
  go_wp2_with fail
  with_reducible refine H2.out.mono ?_
  rintro e w3 ⟨rfl, f3, fr3, h3, t3, i3, p3⟩
  have F3 := Lib.hid (F2.out.trans f3)
  have H3 := Lib.hid (show ∃ fr1, CG w0 q u0 (l ++ [x]) (up par x p) (ownG own x p) (up nm x (b.map lowB :: nm p)) fr1 w3 ∧ MakeG fr x p fr1 from ⟨fr3, h3, by show delT (fun y => fr3.h y % 224) fr3.T x = fr.T; rw [t3, i3]; exact M1.out.tt, by rw [i3]; exact M1.out.hh, by rw [p3]; exact M1.out.pp, by rw [p3]; exact M1.out.px⟩)
  clear f3 h3 t3 i3 p3 F2 H2
  go_wp2_with fail
  go_ret
  exact ⟨rfl, F3.out, HNE.out.1, HNE.out.2, HPX.out, H3.out⟩
end
end Go.Proofs.YtellbfamofilaaaGreatDoor

/- law22: grown, with the index's slots. (Printed by gen_cs.py.) -/
namespace Go.Proofs.YtellbfamofilaaaGreatDoor
set_option linter.unusedVariables false
set_option linter.unusedSimpArgs false
open Go.RowKit

section
variable {w0 w W W' : World} {q : MH} {u0 : TM} {l : List Nat} {par refs own : Nat → Nat} {B : Nat → List Nat} {nm : Nat → List (List Nat)} {fr : Gh} {x p a c : Nat} {b : List Nat} {N : List (List Nat)} {k j at_ : Nat}
theorem CG.congr {par' own' : Nat → Nat} {nm' : Nat → List (List Nat)} (h : CG w0 q u0 l par own nm fr W) (hp : ∀ y ∈ l, par' y = par y) (ho : ∀ y, own' y = own y) (hn : ∀ y, y = 0 ∨ y ∈ l → nm' y = nm y) : CG w0 q u0 l par' own' nm' fr W := by
  obtain rfl : own' = own := funext ho
  obtain ⟨refs, B, h1, h2, h3, h4, h5⟩ := h
  have hup := fun y hy => h1.np.up (x := y) hy
  obtain ⟨S, L, u, E, B0, g, ha, hrt, r, hf⟩ := h1
  refine ⟨refs, B, ⟨S, L, u, E, B0, g, ha, hrt, fun y hy => ⟨by rw [hp y hy]; exact (r y hy).1, (r y hy).2⟩, hf⟩, ⟨by rw [hn 0 (.inl rfl)]; exact h2.z, fun y hy => ?_⟩, fun y hy => ?_, fun y hy h0 => ?_, h5⟩
  · rw [hn y (.inr hy), hp y hy, hn _ (hup y hy)]
    exact h2.s y hy
  · rw [bel_congr hp]
    exact h3 y hy
  · obtain ⟨z, hz, e⟩ := h4 y hy h0
    exact ⟨z, hz, by rw [hp z hz]; exact e⟩
structure GwG (w0 : World) (q : MH) (u0 : TM) (l : List Nat) (par own : Nat → Nat) (nm : Nat → List (List Nat)) (N : List (List Nat)) (k j at_ : Nat) (lj : List Nat) (parj : Nat → Nat) (nmj : Nat → List (List Nat)) (frj : Gh) (g0 : Gh) (W : World) : Prop where
  cp : CG w0 q u0 lj parj (ownP own at_) nmj frj W
  pl : at_ = 0 ∨ at_ ∈ lj
  ew : nmj at_ = sfx N (k + j)
  rem : Rem own parj lj l
  pa : ∀ y ∈ l, parj y = par y
  na : ∀ y, y = 0 ∨ y ∈ l → nmj y = nm y
  len : lj.length = l.length + j
  sf : ∀ y ∈ lj, y ∉ l → ∃ s, N = s ++ nmj y
  no : k + j < N.length → ∀ y ∈ lj, nmj y ≠ sfx N (k + j + 1)
  gh : slK frj.H frj.p frj.T at_ j = g0.T
  pk : ∀ i, i < j → parK frj.p at_ i ∈ lj
theorem GwG.start (h : CG w0 q u0 l par (ownP own at_) nm fr W) (g : Kn l nm N at_ k) : GwG w0 q u0 l par own nm N k 0 at_ l par nm fr fr W :=
  ⟨h, g.pl, g.ew, .refl l, fun _ _ => rfl, fun _ _ => rfl, rfl, fun y hy hn => absurd hy hn, g.no, rfl, fun i hi => absurd hi (Nat.not_lt_zero _)⟩
variable {lj : List Nat} {parj : Nat → Nat} {nmj : Nat → List (List Nat)} {frj g0 : Gh}
theorem GwG.gwi (g : GwG w0 q u0 l par own nm N k j at_ lj parj nmj frj g0 W) : GwI w0 q u0 l par own nm N k j at_ lj parj nmj frj.n W := ⟨g.cp.cp, g.pl, g.ew, g.rem, g.pa, g.na, g.len, g.sf, g.no⟩
theorem GwG.next (g : GwG w0 q u0 l par own nm N k j at_ lj parj nmj frj g0 W) {s : List Nat} {fr1 : Gh} (hk : k + j < N.length) (hs : sfx N (k + j + 1) = s :: sfx N (k + j)) (hx : x ∉ lj) (hx0 : x ≠ 0) (hp : at_ ≠ x) (h0 : own x = 0)
    (h : CG w0 q u0 (lj ++ [x]) (up parj x at_) (ownG (ownP own at_) x at_) (up nmj x (s :: nmj at_)) fr1 W') (m : MakeG frj x at_ fr1) : GwG w0 q u0 l par own nm N k (j + 1) x (lj ++ [x]) (up parj x at_) (up nmj x (s :: nmj at_)) fr1 g0 W' := by
  have n := g.gwi.next hk hs hx hx0 hp h0 h.cp
  have hne : ∀ y ∈ lj, y ≠ x := fun y hy e => hx (by rw [← e]; exact hy)
  have hH : ∀ y ∈ lj, fr1.H y = frj.H y := fun y hy => by unfold Gh.H; rw [m.hh y (hne y hy)]
  have hP : ∀ y ∈ lj, fr1.p y = frj.p y := fun y hy => m.pp y (hne y hy)
  have hcg := fun i (hi : i ≤ j) => slK_congr (H := frj.H) (H' := fr1.H) (p := frj.p) (p' := fr1.p) (x := at_) g.cp.sub (fun y hy => (hH y hy).symm) (fun y hy => (hP y hy).symm) i (fun i' hi' => g.pk i' (by omega))
  refine ⟨h.congr (fun _ _ => rfl) (fun y => ?_) (fun _ _ => rfl), n.pl, n.ew, n.rem, n.pa, n.na, n.len, n.sf, n.no, ?_, fun i hi => ?_⟩
  · obtain ⟨refs, B, h1, h2, h3, h4, h5⟩ := h
    by_cases ha : at_ = 0
    · subst ha
      unfold ownG
      rw [if_pos rfl]
      by_cases e : y = x
      · subst e
        rw [up_same, ownP_at _ hx0, h0]
      · rw [up_ne _ _ e, ownP_ne _ e]
        unfold ownP
        rw [if_pos rfl]
    · unfold ownG
      rw [if_neg ha]
      by_cases e : y = x
      · subst e
        rw [up_ne _ _ (fun e => hp e.symm), up_same, ownP_at _ hx0, h0]
      · by_cases e2 : y = at_
        · subst e2
          rw [up_same, ownP_at _ ha, ownP_ne _ e]
          omega
        · rw [up_ne _ _ e2, up_ne _ _ e, ownP_ne _ e, ownP_ne _ e2]
  · rw [slK_shift, m.tt, m.px, ← (hcg j (Nat.le_refl _)).1]
    exact g.gh
  · cases i with
    | zero => exact List.mem_append_right _ (List.mem_singleton.2 rfl)
    | succ i =>
      rw [parK_shift, m.px, ← (hcg i (by omega)).2]
      exact List.mem_append_left _ (g.pk i (by omega))
theorem GwG.undo (g : GwG w0 q u0 l par own nm N k j at_ lj parj nmj frj g0 W) (hF : Firm own par l) (hat : at_ ≠ 0) {l1 : List Nat} {fr1 : Gh} (h1 : CG w0 q u0 l1 parj (up (ownP own at_) at_ (own at_)) nmj fr1 W') (h2 : Rem (up (ownP own at_) at_ (own at_)) parj lj l1) : l1 = l ∧ CG w0 q u0 l par own nm fr1 W' := by
  have eo : up (ownP own at_) at_ (own at_) = own := funext fun y => by
    by_cases e : y = at_
    · rw [e, up_same]
    · rw [up_ne _ _ e, ownP_ne _ e]
  rw [eo] at h1 h2
  have hF' : Firm own parj l := fun y hy h0 => by
    obtain ⟨z, hz, e⟩ := hF y hy h0
    exact ⟨z, hz, by rw [g.pa z hz]; exact e⟩
  have hl : l1 = l := h2.uniq g.rem h1.cp.firm hF' g.cp.cp.nd
  subst hl
  exact ⟨rfl, h1.congr (fun y hy => (g.pa y hy).symm) (fun _ => rfl) (fun y hy => (g.na y hy).symm)⟩
theorem GwG.undo0 (g : GwG w0 q u0 l par own nm N k j 0 lj parj nmj frj g0 W) (hk : k + j ≤ N.length) {fr1 : Gh} (h : CG w0 q u0 lj parj (ownP own 0) nmj fr1 W') : CG w0 q u0 l par own nm fr1 W' := by
  have h0 : k + j = 0 := by
    have := congrArg List.length g.ew
    rw [g.cp.cp.z, sfx_len hk] at this
    exact this.symm
  have hl : l = lj := g.rem.sub.eq_of_length (by rw [g.len]; omega)
  rw [← hl] at h
  exact h.congr (fun y hy => (g.pa y hy).symm) (fun y => by unfold ownP; rw [if_pos rfl]) (fun y hy => (g.na y hy).symm)
theorem cg_class (h : CG w0 q u0 l par own nm fr W) (hb : ∀ k ∈ b, k < 256) (hk : labOk b = true) : Calls Tryz.prog 55 #[.string (strOf b)] W fun e w' => e = .returned (.tuple #[.int .i64 (clsN (16 + b.length)), .int .i64 0]) ∧ Fr [] W w' := by
  obtain ⟨refs, B, ⟨S, L, u, E, B0, g, _⟩, _⟩ := h
  have := nclass g.wb.h.m.tab b hb
  rw [if_pos hk] at this
  exact this
def GrG (w0 : World) (q : MH) (u0 : TM) (l : List Nat) (par own : Nat → Nat) (nm : Nat → List (List Nat)) (g0 : Gh) (L : List (List Nat)) (e : Ending) (w' : World) : Prop :=
  (e = .returned (.tuple #[.int .i64 0, .int .i64 0, .bool false]) ∧ (chkN L ≠ 0 ∨ 7 ≤ l.length + L.length) ∧ ∃ fr1, CG w0 q u0 l par own nm fr1 w') ∨
  (chkN L = 0 ∧ ∃ at_ n k a0 : Nat, e = .returned (.tuple #[.int .i64 at_, .int .i64 n, .bool true]) ∧ k + n = L.length ∧ Kn l nm (lowN L) a0 k ∧ ∃ lj parj nmj frj, GwG w0 q u0 l par own nm (lowN L) k n at_ lj parj nmj frj g0 w')
set_option maxRecDepth 100000 in
set_option maxHeartbeats 8000000 in
theorem grown22g (h : CG w0 q u0 l par own nm fr w) (ad : Option Addr) (cap : Nat) (L : List (List Nat)) (hA : StrA w ad L) (hAq : 0 < L.length → ∀ g o, ad = some ⟨g, o, none⟩ → g ∉ q.blocks) (hb : wireN L ≤ 1131) (hl : L.length ≤ 130) (ho : ∀ y, own y ≤ 1000000) :
    Calls Tryz.prog 29 #[.pointer (some ⟨q.m, 0, none⟩), .slice ad L.length cap] w fun e w' => Fr q.blocks w w' ∧ GrG w0 q u0 l par own nm fr L e w' := by
  have HP := Lib.hid (cg_pin h ad cap L hA hAq (by omega) (fun y => by have := ho y; omega))
  have HA := Lib.hid hA
  have HQ := Lib.hid (fun g (hg : g < w.heap.size) (hn : g ∉ q.blocks) W (hW : Fr q.blocks w W) o v (hc : w.cell? ⟨g, o, none⟩ = some v) => (show W.cell? ⟨g, o, none⟩ = some v from (hW.cell (p := ⟨g, o, none⟩) hg hn).trans hc))
  have HAq := Lib.hid hAq
  have HO := Lib.hid ho
  have HFm := Lib.hid h.cp.firm
  have HLL := Lib.hid h.cp.few
  obtain ⟨n, hn⟩ : ∃ n, L.length = n := ⟨_, rfl⟩
  have HN := Lib.hid hn
  rw [hn] at hl HP ⊢
  clear h hA hAq hb ho hn
  go_enter Tryz.func29, Tryz.ntmps29
  go_wp2_with fail
  with_reducible refine HP.out.mono ?_
  rintro e w1 ⟨f1, ⟨hck, rfl, h1⟩ | ⟨hck, at0, k, rfl, hk, h1⟩⟩
  · have HE := Lib.hid (show Fr q.blocks w w1 ∧ GrG w0 q u0 l par own nm fr L (.returned (.tuple #[.int .i64 0, .int .i64 0, .bool false])) w1 from ⟨f1, .inl ⟨rfl, .inl hck, fr, h1⟩⟩)
    have bc : ((chkN L : Int) != 0) = true := by simp; omega
    have bc' : (chkN L != 0) = true := by simp; omega
    generalize chkN L = ck at *
    clear f1 h1 hck HP
    go_wp2_with fail
    go_returns
    exact HE.out
  · have F1 := Lib.hid f1
    have hkn : k ≤ n := by have := hk.le; rw [lowN_len, HN.out] at this; exact this
    have G1 := Lib.hid (GwG.start (own := own) h1 hk)
    have HK := Lib.hid hk
    have HCK := Lib.hid hck
    have w1' : IntKind.i64.wrap ((n : Int) - k) = ((n - k : Nat) : Int) := by rw [IntWalk.i64_in _ (by omega)]; omega
    have w2' : IntKind.i64.wrap (((n - k : Nat) : Int) - 1) = ((n - k : Nat) : Int) - 1 := IntWalk.i64_in _ (by omega)
    obtain ⟨R, hR⟩ : ∃ R, n - k = R := ⟨_, rfl⟩
    rw [hR] at w1' w2'
    have hRn : k + R = n := by omega
    clear f1 h1 hk hck HP hR
    go_wp2_with fail
    go_loopg [7, 10, 11] (R + 1) (fun gk v7 v10 v11 W => ∃ (j at_ m : Nat), v7 = .int .i64 at_ ∧ v10 = .int .i64 j ∧ v11 = .int .i64 ((m : Int) - 1) ∧ (m + 1 = gk ∧ j + m = R) ∧ Hid (∃ lj parj nmj frj, GwG w0 q u0 l par own nm (lowN L) k j at_ lj parj nmj frj fr W) ∧ Hid (Fr q.blocks w W))
    case atStart => exact ⟨0, at0, R, rfl, rfl, rfl, by omega, Lib.hid ⟨_, _, _, _, G1.out⟩, F1⟩
    case round =>
      clear G1 F1
      obtain ⟨j, at_, m, rfl, rfl, rfl, hm, HG, HF⟩ := hrel
      cases m with
      | zero =>
        have HE := Lib.hid (show Fr q.blocks w wr ∧ GrG w0 q u0 l par own nm fr L (.returned (.tuple #[.int .i64 at_, .int .i64 j, .bool true])) wr from ⟨HF.out, .inr ⟨HCK.out, at_, j, k, at0, rfl, by rw [HN.out]; omega, HK.out, HG.out⟩⟩)
        rw [show (((0 : Nat) : Int) - 1) = -1 from rfl]
        clear HG HF HK HCK
        go_wp2_with fail
        go_returns
        exact HE.out
      | succ t =>
        have ez : (((t + 1 : Nat) : Int) - 1) = (t : Int) := by omega
        rw [ez]
        have hL : t < L.length := by rw [HN.out]; omega
        obtain ⟨g, o, rfl, hc, hg⟩ := HA.out.at_ t hL
        have hgd : L[t]? = some (L[t]'hL) := List.getElem?_eq_getElem hL
        rw [hgd] at hc
        simp only [Option.getD_some] at hc
        have hs := HA.out.lt _ (List.getElem_mem hL)
        have hsk : labOk (L[t]'hL) = true := by
          have hck := HCK.out
          unfold chkN at hck
          by_cases ha : L.all labOk = true
          · exact List.all_eq_true.1 ha _ (List.getElem_mem hL)
          · rw [if_neg ha] at hck; cases hck
        have HSX := Lib.hid (show sfx (lowN L) (k + j + 1) = (L[t]'hL).map lowB :: sfx (lowN L) (k + j) from by
          rw [sfx_succ (by rw [lowN_len, HN.out]; omega)]
          congr 1
          simp only [lowN, List.getElem_map, List.length_map, HN.out]
          congr 1
          congr 1
          omega)
        have hkl : k + j < (lowN L).length := by rw [lowN_len, HN.out]; omega
        have hcW := HQ.out g hg (HAq.out (by omega) g o rfl) wr HF.out _ _ hc
        have HcW := Lib.hid (fun W (hW : Fr q.blocks w W) => HQ.out g hg (HAq.out (by omega) g o rfl) W hW _ _ hc)
        generalize L[t]'hL = s at *
        obtain ⟨lj, parj, nmj, frj, hG⟩ := HG.out
        have hs63 := (labOk_len hsk).2
        have hcls := clsN_ok (16 + s.length) (by omega)
        have HCl := Lib.hid (cg_class hG.cp hs hsk)
        have HTk := Lib.hid (fun W' (hf : Fr [] wr W') => cg_take (hG.cp.fr0 hf) (c := clsN (16 + s.length)) ⟨hcls.1, hcls.2.1⟩)
        have HG2 := Lib.hid hG
        have HGr := Lib.hid (fun W x (hW : CGT w0 q u0 lj parj (ownP own at_) nmj x (clsN (16 + s.length)) frj W) => cg_grow hW (p := at_) (hG.pl.imp id (fun hm => ⟨hm, by
            have h0 : at_ ≠ 0 := (hG.cp.cp.rng hm).1
            rw [ownP_at _ h0]; omega⟩)) hs hsk (fun y hy e => hG.no hkl y hy (by rw [e, HSX.out, hG.ew])) (fun _ => by
            have := ownP_le own at_ at_
            have := HO.out at_
            omega) hG.cp.cp.few)
        have HX0 := Lib.hid (fun x (hx : x ∉ lj) => (show own x = 0 from by
          have h1 := hG.cp.cp.out hx
          have h2 := ownP_ge own at_ x
          omega))
        have HKL := Lib.hid hkl
        have b1 : decide ((0 : Int) ≤ t) = true := by simp
        have t0 : (0 : Int) ≤ t := by omega
        have t1 : (t : Int) < n := by omega
        have wt : IntKind.i64.wrap ((t : Int) - 1) = (t : Int) - 1 := IntWalk.i64_in _ (by omega)
        have wj : IntKind.i64.wrap ((j : Int) + 1) = ((j + 1 : Nat) : Int) := by rw [IntWalk.i64_in _ (by omega)]; push_cast; rfl
        generalize strOf s = S at *
        generalize clsN (16 + s.length) = cl at *
        clear hc hgd hL hs hsk hG hs63 hcls hkl ez HG
        go_wp2_with fail
        with_reducible refine HCl.out.mono ?_
        rintro e w3 ⟨rfl, f3⟩
        have HTk' := Lib.hid (HTk.out _ f3)
        have F3 := Lib.hid (HF.out.trans f3.nil)
        clear f3 HCl HTk HF hcW
        go_wp2_with fail
        with_reducible refine HTk'.out.mono ?_
        rintro e w4 ⟨x, r, rfl, f4, ⟨rfl, fr4, hn4, h4⟩ | ⟨rfl, h4⟩⟩
        · have F4 := Lib.hid (F3.out.trans f4)
          have H7 := Lib.hid (show 7 ≤ l.length + L.length from by
            have h7 := h4.cp
            rw [hn4] at h7
            have h7 := h7.full7
            have := HG2.out.len
            rw [HN.out]
            omega)
          have H4 := Lib.hid h4
          clear f4 h4 hn4 HTk' HGr HX0
          by_cases ha : at_ = 0
          · subst ha
            have HU := Lib.hid (HG2.out.undo0 (Nat.le_of_lt HKL.out) H4.out)
            have HE := Lib.hid (show Fr q.blocks w w4 ∧ GrG w0 q u0 l par own nm fr L (.returned (.tuple #[.int .i64 0, .int .i64 0, .bool false])) w4 from ⟨F4.out, .inl ⟨rfl, .inr H7.out, _, HU.out⟩⟩)
            clear HU H4 HG2
            go_wp2_with fail
            with_reducible refine (c_drop0).mono ?_
            rintro e w5 ⟨rfl, he⟩
            rw [he]
            clear he
            go_wp2_with fail
            go_returns
            exact HE.out
          · have HDr := Lib.hid (cg_drop H4.out (HG2.out.pl.resolve_left ha) (own at_) (ownP_at own ha))
            have HAT := Lib.hid ha
            clear ha H4
            go_wp2_with fail
            with_reducible refine HDr.out.mono ?_
            rintro e w5 ⟨n5, l1, fr1, rfl, f5, h5, h5b, -, -⟩
            have HE := Lib.hid (show Fr q.blocks w w5 ∧ GrG w0 q u0 l par own nm fr L (.returned (.tuple #[.int .i64 0, .int .i64 0, .bool false])) w5 from ⟨F4.out.trans f5, .inl ⟨rfl, .inr H7.out, _, (HG2.out.undo HFm.out HAT.out h5 h5b).2⟩⟩)
            clear f5 h5 h5b HDr HG2
            go_wp2_with fail
            go_returns
            exact HE.out
        · have F4 := Lib.hid (F3.out.trans f4)
          have HGr' := Lib.hid (HGr.out _ _ h4)
          have hcW := HcW.out _ F4.out
          clear f4 h4 HTk' HGr
          go_wp2_with fail
          with_reducible refine HGr'.out.mono ?_
          rintro e w5 ⟨rfl, f5, hx1, hx2, hx3, fr5, h5, m5⟩
          have F5 := Lib.hid (F4.out.trans f5)
          have G5 := Lib.hid (HG2.out.next HKL.out HSX.out hx1 hx2 hx3 (HX0.out x hx1) h5 m5)
          clear f5 h5 m5 HGr' hx1 hx2 hx3 HX0 HG2 F4 F3 hcW
          go_wp2_with fail
          go_roundg (gk - 1)
          case measure => omega
          case rel => exact ⟨j + 1, x, t, rfl, rfl, by go_num, by omega, Lib.hid ⟨_, _, _, _, G5.out⟩, F5⟩
end
end Go.Proofs.YtellbfamofilaaaGreatDoor

/- Package index: Slots; chains with the slots. -/
namespace Go.Proofs.YtellbfamofilaaaGreatDoor
set_option linter.unusedVariables false
set_option linter.unusedSimpArgs false
open Go.RowKit

def u32C (l : List Nat) : List Value := l.map fun k : Nat => Value.int .u32 (k : Int)
theorem info_u32 : (Tryz.prog.info? 67).map (fun i => (i.zero, i.size, i.bytes)) = some (some (.int .u32 0), 1, 4) := by kernel_rfl
/-- The same, and where the row lies then. -/
theorem wpList_appN32 {w : World} {ops : Array Oper} {rest : List Oper} {o : Oper} {a : Act} {Q : Exit → Act → World → Prop} (hgd : o.guard = none) (s x : Operand) (ho : o.op = .call { callee := .builtin .append, args := #[s, x], argTypes := #[65, 65] }) (hty : o.type = 65)
    (base : Nat) (v : Value) (l : List Nat) (hs : a.eval s = v) (y : Nat) (W0 : World) (hW : w = W0.alloc (.cells #[.int .u32 y] 67)) (hown : W0.ownsRow base 67 1 v l.length (u32C l)) (hx : a.eval x = .slice (some ⟨W0.heap.size, 0, none⟩) 1 1)
    (hl : l.length ≤ 1048576) (hbase : base ≤ W0.heap.size)
    (h : ∀ g cap w', w'.ownsRow base 67 1 (.slice (some ⟨g, 0, none⟩) (l.length + 1) cap) (l ++ [y]).length (u32C (l ++ [y])) → Fr (ownS v) W0 w' → (v.ownBlock = some g ∨ g = W0.heap.size + 1) → wpList Tryz.prog ops Q rest (a.put o.dst (.slice (some ⟨g, 0, none⟩) (l.length + 1) cap)) w') : wpList Tryz.prog ops Q (o :: rest) a w := by
  subst hW
  obtain ⟨i0, hi, hz0, hz1, hz2⟩ := info_parts info_u32
  refine wpList_plain hgd fun K hK => ?_
  obtain ⟨v', w', hrun, h2, h3, _, h5⟩ := run_append_own_at (P := Tryz.prog) (W0.alloc (.cells #[.int .u32 y] 67)) base 65 65 67 i0 (.int .u32 0) 1 4 Tryz.underlying65 hi hz0 hz1 hz2 rfl (by decide) v l.length (u32C l) (hown.alloc _) ⟨W0.heap.size, 0, none⟩ 1 1 [.int .u32 y] (by simp) (cells_new1 _ _ _) (by simp [Value.oneCell']) (by unfold maxLen; omega) (by omega) (by simp; omega)
  have h2' : w'.ownsRow base 67 1 v' (l ++ [y]).length (u32C (l ++ [y])) := by rw [List.length_append, List.length_singleton, show u32C (l ++ [y]) = u32C l ++ [.int .u32 y] by simp [u32C]]; exact h2
  obtain ⟨g, cap, rfl⟩ := ownsRow_succ h2
  have hK' := hK _ _ (h g cap w' h2' (fr_grown h3) (by
    rw [World.size_alloc] at h5
    rcases h5 with h5 | h5
    · exact .inl h5.symm
    · exact .inr (Option.some.inj h5)))
  unfold Oper.wp execOp
  simp only [ho, hty, resolve, invoke, builtin, Sem.run_bind, Sem.run_pure, Result.andThen_ok, List.map_toArray, List.map_cons, List.map_nil, hs, hx, hrun]
  exact hK'

theorem NG.frL {w0 W W' : World} {q : MH} {u0 : TM} {l : List Nat} {par refs : Nat → Nat} {B : Nat → List Nat} {fr : Gh} {base : Nat} {Bs : List Nat} (g : NG w0 q u0 l par refs B fr W) (ok : BaseOk w0 q base) (hf : Fr Bs W W') (hB : ∀ k ∈ Bs, base ≤ k) : NG w0 q u0 l par refs B fr W' := by
  obtain ⟨S, L, u, E, B0, h1, h2⟩ := g
  exact ⟨S, L, u, E, B0, h1.frL ok hf hB, h2⟩
theorem CG.frL {w0 W W' : World} {q : MH} {u0 : TM} {l : List Nat} {par own : Nat → Nat} {nm : Nat → List (List Nat)} {fr : Gh} {base : Nat} {Bs : List Nat} (h : CG w0 q u0 l par own nm fr W) (ok : BaseOk w0 q base) (hf : Fr Bs W W') (hB : ∀ k ∈ Bs, base ≤ k) : CG w0 q u0 l par own nm fr W' := by
  obtain ⟨refs, B, h1, h2⟩ := h
  exact ⟨refs, B, h1.frL ok hf hB, h2⟩
/-- A row of slots. -/
def SlR (W : World) (ad : Option Addr) (T : Nat → Nat) (base : Nat) : Prop := ∃ g, ad = some ⟨g, 0, none⟩ ∧ base ≤ g ∧ g < W.heap.size ∧ ∀ i, i < 224 → W.cell? ⟨g, i, none⟩ = some (.int .u32 (T i))
theorem SlR.fr {W W' : World} {ad : Option Addr} {T : Nat → Nat} {base : Nat} {S : List Nat} (h : SlR W ad T base) (hf : Fr S W W') (hS : ∀ k ∈ S, k < base) : SlR W' ad T base := by
  obtain ⟨g, e, hb, hg, hc⟩ := h
  exact ⟨g, e, hb, Nat.lt_of_lt_of_le hg hf.size, fun i hi => (hf.cell (p := ⟨g, i, none⟩) hg (fun hm => by have := hS g hm; omega)).trans (hc i hi)⟩
theorem SlR.lo {W : World} {ad : Option Addr} {T : Nat → Nat} {base base' : Nat} (h : SlR W ad T base) (hb : base' ≤ base) : SlR W ad T base' := by
  obtain ⟨g, e, h1, hg, hc⟩ := h
  exact ⟨g, e, Nat.le_trans hb h1, hg, hc⟩
theorem own_u32 {W : World} {base : Nat} {v : Value} {T : Nat → Nat} (h : W.ownsRow base 67 1 v ((List.range 224).map T).length (u32C ((List.range 224).map T))) : ∃ ad cap, v = .slice ad 224 cap ∧ SlR W ad T base := by
  obtain ⟨h1, ⟨h2, h3⟩ | ⟨g, cap, cur, rfl, hg0, hg, r1, r2, r3, r4⟩⟩ := h
  · simp at h3
  · rw [Nat.mul_one] at r4
    refine ⟨some ⟨g, 0, none⟩, cap, by simp, g, rfl, hg0, (Array.getElem?_eq_some_iff.1 hg).1, fun i hi => ?_⟩
    have hc := Blk.cell (g := g) (t := 67) (cs := cur) hg i
    rw [hc, ← Array.getElem?_toList]
    have e : (cur.toList.take ((List.range 224).map T).length)[i]? = (u32C ((List.range 224).map T))[i]? := by rw [r4]
    rw [List.getElem?_take_of_lt (by simp; exact hi)] at e
    rw [e]
    simp [u32C, hi]
section
variable {w0 w W W' : World} {q : MH} {u0 : TM} {l : List Nat} {par refs own : Nat → Nat} {nm : Nat → List (List Nat)} {fr : Gh} {x p a c : Nat}
theorem cg_of (h : CG w0 q u0 l par own nm fr W) : Calls Tryz.prog 76 #[.pointer (some ⟨q.m, 0, none⟩)] W fun e w' => e = .returned (.agg #[.pointer (some ⟨q.m, 0, none⟩), .int .i64 224]) ∧ Fr [] W w' := by
  obtain ⟨refs, B, ⟨S, L, u, E, B0, g, _⟩, _⟩ := h
  have := iof g.wb.h.m
  rw [g.wb.s] at this
  exact this
theorem cg_get (h : CG w0 q u0 l par own nm fr W) (i : Nat) (hi : i < 224) : Calls Tryz.prog 77 #[.agg #[.pointer (some ⟨q.m, 0, none⟩), .int .i64 224], .int .i64 i] W fun e w' => e = .returned (.int .i64 (fr.T i)) ∧ CG w0 q u0 l par own nm fr w' ∧ Fr q.blocks W w' := by
  obtain ⟨refs, B, ⟨S, L, u, E, B0, g, r1, r2, r3, r4, hT, r5⟩, k⟩ := h
  have := iget g.wb.h.m i (by omega) (by rw [g.wb.s]; decide)
  rw [g.wb.s, Nat.mod_eq_of_lt hi, hT] at this
  exact this.mono fun e w' ⟨h1, h2, h3⟩ => ⟨h1, ⟨refs, B, ⟨S, L, u, E, B0, g.same (g.wb.h.step h2 h3) h3, r1, r2, r3, r4, hT, r5⟩, k⟩, h3⟩
set_option maxRecDepth 100000 in
set_option maxHeartbeats 4000000 in
theorem cg_slots (h : CG w0 q u0 l par own nm fr W) : Calls Tryz.prog 36 #[.pointer (some ⟨q.m, 0, none⟩)] W fun e w' => ∃ ad cap, e = .returned (.slice ad 224 cap) ∧ SlR w' ad fr.T W.heap.size ∧ CG w0 q u0 l par own nm fr w' ∧ Fr q.blocks W w' := by
  have HO := Lib.hid (cg_of h)
  have HG := Lib.hid (fun V (hV : CG w0 q u0 l par own nm fr V) i (hi : i < 224) => cg_get hV i hi)
  have HT := Lib.hid (show ∀ i, i < 224 → fr.T i < 1048576 from fun i hi => by
    rcases h.sub i hi with e | e
    · omega
    · exact (h.cp.rng e).2)
  have OK := Lib.hid h.cp.bok
  have H0 := Lib.hid h
  generalize hfT : fr.T = T at *
  clear h
  go_enter Tryz.func36, Tryz.ntmps36
  go_wp2_with fail
  with_reducible refine HO.out.mono ?_
  rintro e w1 ⟨rfl, f1⟩
  have C1 := Lib.hid ((H0.out.fr0 f1).fr0 ((Fr.refl [] w1).alloc (.cells #[.pointer (some ⟨q.m, 0, none⟩), .int .i64 224] 125)))
  have F1 := Lib.hid (f1.alloc (.cells #[.pointer (some ⟨q.m, 0, none⟩), .int .i64 224] 125))
  have B1 := Lib.hid (Blk.new w1 125 #[.pointer (some ⟨q.m, 0, none⟩), .int .i64 224])
  have hb1 : W.heap.size ≤ w1.heap.size := f1.size
  have hbq : w1.heap.size ∉ q.blocks := fun hm => by have := OK.out.q _ hm; omega
  generalize hX : w1.heap.size = X at *
  have HX := Lib.hid hX
  have hs2' : X < (w1.alloc (.cells #[.pointer (some ⟨q.m, 0, none⟩), .int .i64 224] 125)).heap.size := by rw [World.size_alloc, hX]; omega
  have HS2 := Lib.hid hs2'
  have c0 := B1.out.cell 0
  have c1 := B1.out.cell 1
  simp only [List.getElem?_toArray, List.getElem?_cons_succ, List.getElem?_cons_zero] at c0 c1
  clear f1 H0 HO hs2'
  go_wp2_with fail
  (try rw [hX])
  generalize hw2 : w1.alloc (.cells #[.pointer (some ⟨q.m, 0, none⟩), .int .i64 224] 125) = w2 at *
  clear hw2 c0 c1 hX
  go_loopg [4, 10] (224 + 1) (fun gk v4 v10 V => ∃ i : Nat, v10 = .int .i64 i ∧ (i + gk = 225 ∧ i ≤ 224) ∧ Hid (CG w0 q u0 l par own nm fr V) ∧ Hid (Fr q.blocks W V) ∧ Hid (Blk V X 125 #[.pointer (some ⟨q.m, 0, none⟩), .int .i64 224]) ∧ Hid (V.ownsRow (X + 1) 67 1 v4 ((List.range i).map T).length (u32C ((List.range i).map T))) ∧ Hid (X + 1 ≤ V.heap.size))
  case atStart => exact ⟨0, rfl, by omega, C1, Lib.hid F1.out.nil, B1, Lib.hid (World.ownsRow_nil _ _ _ _), Lib.hid HS2.out⟩
  case round =>
    clear C1 F1 B1 HS2
    obtain ⟨i, rfl, hi, C3, F3, B3, R3, hs3⟩ := hrel
    have c0 := B3.out.cell 0
    have c1 := B3.out.cell 1
    simp at c0 c1
    by_cases hlt : i < 224
    · have b6 : decide ((i : Int) < 224) = true := by simp; omega
      have b6' : decide (i < 224) = true := by simp; omega
      have HGi := Lib.hid (HG.out _ C3.out i hlt)
      have hTi := HT.out i hlt
      have HR := Lib.hid (show (List.range (i + 1)).map T = (List.range i).map T ++ [T i] from by rw [List.range_succ, List.map_append]; rfl)
      have hln : ((List.range i).map T).length ≤ 1048576 := by simp; omega
      generalize (List.range i).map T = K at *
      generalize T i = ti at *
      have wt : IntKind.u32.wrap (ti : Int) = (ti : Int) := by show (ti : Int) % 4294967296 = ti; omega
      have wi : IntKind.i64.wrap ((i : Int) + 1) = (i : Int) + 1 := IntWalk.i64_in _ (by omega)
      go_wp2_with fail
      with_reducible refine HGi.out.mono ?_
      rintro e w4 ⟨rfl, h4, f4⟩
      have C4 := Lib.hid h4
      have F4 := Lib.hid (F3.out.trans f4)
      have B4 := Lib.hid (B3.out.fr f4 hbq)
      have R4 := Lib.hid (own_fr4 R3.out f4 (fun k hk e => by
        have h1 := (R3.out.lt k e).1
        have h2 := OK.out.q k hk
        omega))
      have hs4 : X + 1 ≤ w4.heap.size := Nat.le_trans hs3.out f4.size
      clear h4 f4 C3 F3 B3 R3 hs3 HGi c0 c1
      go_wp2_with (first | (at_builtin; refine wpList_appN32 rfl _ _ rfl rfl (X + 1) _ K rfl ti w4 rfl R4.out rfl hln hs4 ?_; intro g1 q1 W1 hO1 hF1 hob1) | fail)
      have hge : ∀ k ∈ ownS u4, X + 1 ≤ k := fun k hk => (R4.out.lt k (ownS_mem hk)).1
      have C5 := Lib.hid (C4.out.frL OK.out hF1 (fun k hk => by have := hge k hk; omega))
      have F5 := Lib.hid (F4.out.step hF1 (fun k hk => .inr (by have := hge k hk; omega)))
      have B5 := Lib.hid (B4.out.fr hF1 (fun hm => by have := hge _ hm; omega))
      have R5 := Lib.hid hO1
      have hs5 : X + 1 ≤ W1.heap.size := Nat.le_trans hs4 hF1.size
      clear hO1 hF1 hob1 hge C4 F4 B4 R4
      go_roundg (gk - 1)
      case measure => omega
      case rel => exact ⟨i + 1, by go_num, by omega, C5, F5, B5, Lib.hid (by rw [HR.out]; exact R5.out), Lib.hid hs5⟩
    · obtain rfl : i = 224 := by omega
      obtain ⟨ad, cap, rfl, hsl⟩ := own_u32 (T := T) R3.out
      have HS := Lib.hid (show SlR wr ad T W.heap.size from hsl.lo (by omega))
      clear hsl R3
      go_wp2_with fail
      go_ret
      exact ⟨ad, cap, rfl, HS.out, C3.out, F3.out⟩
end
end Go.Proofs.YtellbfamofilaaaGreatDoor
